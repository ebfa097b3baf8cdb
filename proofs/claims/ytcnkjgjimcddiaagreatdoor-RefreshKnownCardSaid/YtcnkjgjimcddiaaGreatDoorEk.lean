/- Contract: refresh.Told, where the header reads well. The law RefreshKnown. -/
import Derived.Test.YtcnkjgjimcddiaaGreatDoorAq
import Derived.Test.YtcnkjgjimcddiaaGreatDoorEm
import Derived.Test.YtcnkjgjimcddiaaGreatDoorEt
import Derived.Test.YtcnkjgjimcddiaaGreatDoorEs
namespace Go.Proofs.YtcnkjgjimcddiaaGreatDoor
open Go.RowKit

def toldL (l : List (ByteArray × ByteArray)) : Ans :=
  if (foundL l SEXP).has = false then ⟨0, 0, 0, false, 0⟩
  else if ivl (foundL l SEXP).n = false then ⟨0, 0, 0, false, 2⟩
  else ⟨0, 0, (foundL l SEXP).n, (getPm (foundL l SEXP).ps REFR).getD [] == [117, 97, 99], 0⟩
set_option maxRecDepth 100000 in
set_option maxHeartbeats 4000000 in
theorem told_any (ms uri rsn : ByteArray) (code : Int) (A B : Option Addr) (n c m d : Nat) (l : List (ByteArray × ByteArray)) (w : World) (hA : Rds w w.heap.size A (hds l)) (hl : HdOK l n) (hS : SC w) (h1 : (foundL l SEXP).e = 0) :
    Calls Tryz.prog 23 #[.agg #[.string ms, .string uri, .int .i64 code, .string rsn, .slice A n c, .slice B m d]] w fun e w' => e = .returned (toldL l).v ∧ Below w.heap.size w w' := by
  have HF := Lib.hid hl; have HS := Lib.hid hS; have HA := Lib.hid hA
  have PMO := Lib.hid (foundL_pm hl SEXP)
  have EV := Lib.hid (show toldL l = if (foundL l SEXP).has = false then ⟨0, 0, 0, false, 0⟩
  else if ivl (foundL l SEXP).n = false then ⟨0, 0, 0, false, 2⟩
  else ⟨0, 0, (foundL l SEXP).n, (getPm (foundL l SEXP).ps REFR).getD [] == [117, 97, 99], 0⟩ from rfl)
  generalize toldL l = R at *
  have R3 := Lib.hid ((Row.new w 51 [.string ms, .string uri, .int .i64 code, .string rsn, .slice A n c, .slice B m d]).alloc (.cells #[.int .i64 0, .int .i64 0, .int .i64 0, .bool false] 25))
  have R6 := Lib.hid (show Row ((w.alloc (.cells #[.string ms, .string uri, .int .i64 code, .string rsn, .slice A n c, .slice B m d] 51)).alloc (.cells #[.int .i64 0, .int .i64 0, .int .i64 0, .bool false] 25)) (w.heap.size + 1) 25 [.int .i64 0, .int .i64 0, .int .i64 0, .bool false] by
    have h := Row.new (w.alloc (.cells #[.string ms, .string uri, .int .i64 code, .string rsn, .slice A n c, .slice B m d] 51)) 25 [.int .i64 0, .int .i64 0, .int .i64 0, .bool false]
    rwa [World.size_alloc] at h)
  have B0 := Lib.hid (show Below w.heap.size w ((w.alloc (.cells #[.string ms, .string uri, .int .i64 code, .string rsn, .slice A n c, .slice B m d] 51)).alloc (.cells #[.int .i64 0, .int .i64 0, .int .i64 0, .bool false] 25)) from ((Below.refl _ _).alloc (Nat.le_refl _) _).alloc (by simp) _)
  clear hA hl hS
  go_enter Tryz.func23, Tryz.ntmps23
  go_upto_region 1 with (fail)
  generalize ((w.alloc (.cells #[.string ms, .string uri, .int .i64 code, .string rsn, .slice A n c, .slice B m d] 51)).alloc (.cells #[.int .i64 0, .int .i64 0, .int .i64 0, .bool false] 25)) = W at *
  have HA0 := Lib.hid ((HA.out.below B0.out).up B0.out.size); have HS0 := Lib.hid (HS.out.below B0.out)
  clear HA HS
  go_wp2_with (with_reducible refine wpList_loadR rfl 51 (.tmp 1) rfl R3.out rfl Tryz.underlying51 rfl (size6m _ _ _ _ _ _) ?_)
  refine (reader_any ms uri rsn code A B n c m d W).mono ?_
  rintro e W1 ⟨rfl, rfl⟩
  have BN := Lib.hid ((Below.refl W.heap.size W).alloc (Nat.le_refl _) (.cells #[.string ms, .string uri, .int .i64 code, .string rsn, .slice A n c, .slice B m d] 51))
  have RB1 := Lib.hid (Row.new W 51 [.string ms, .string uri, .int .i64 code, .string rsn, .slice A n c, .slice B m d])
  have R61 := Lib.hid (R6.out.below BN.out); have B1 := Lib.hid (bthen B0.out BN.out)
  have HA1 := Lib.hid ((HA0.out.below BN.out).up BN.out.size); have HS1 := Lib.hid (HS0.out.below BN.out)
  clear R3 R6 B0 HA0 HS0 BN
  generalize W.alloc (.cells #[.string ms, .string uri, .int .i64 code, .string rsn, .slice A n c, .slice B m d] 51) = W1 at *
  generalize W.heap.size = mb at *
  go_wp2_with fail
  have FQ := Lib.hid (found_any ms uri rsn ⟨#[83, 101, 115, 115, 105, 111, 110, 45, 69, 120, 112, 105, 114, 101, 115]⟩ code A B n c m d mb l W1 RB1.out HA1.out HF.out (by decide) HS1.out)
  rw [show byteL ⟨#[83, 101, 115, 115, 105, 111, 110, 45, 69, 120, 112, 105, 114, 101, 115]⟩ = SEXP from rfl] at FQ
  obtain ⟨⟨ih, inn, ips, ie⟩, hI⟩ : ∃ I, foundL l SEXP = I := ⟨_, rfl⟩
  rw [hI] at FQ EV PMO h1
  dsimp only at EV h1 PMO
  subst h1
  clear hI
  refine FQ.out.mono ?_
  clear FQ
  rintro e W3 ⟨A2, c2, rfl, hb, hr, hl16, hfr⟩
  dsimp only at hr hl16 ⊢
  have R63 := Lib.hid (R61.out.below hb); have B3 := Lib.hid (bthen B1.out hb); have P3 := Lib.hid hr
  clear RB1 R61 B1 HA1 HS1 hb hr hfr
  generalize hil : ips.length = il at *
  have HIL := Lib.hid hil
  clear hil
  have BN := Lib.hid ((Below.refl W3.heap.size W3).alloc (Nat.le_refl _) (.cells #[.bool ih, .int .i64 inn, .slice A2 il c2, .int .u8 0] 65))
  have RI := Lib.hid (Row.new W3 65 [.bool ih, .int .i64 inn, .slice A2 il c2, .int .u8 0])
  go_upto_region 2 with (fail)
  generalize W3.alloc (.cells #[.bool ih, .int .i64 inn, .slice A2 il c2, .int .u8 0] 65) = W5 at *
  have RR := Lib.hid (R63.out.below BN.out); have BB := Lib.hid (bthen B3.out BN.out); have PP := Lib.hid ((P3.out.below BN.out).up BN.out.size)
  clear R63 B3 P3 BN
  generalize W3.heap.size = ib at *
  have i0 := RI.out.cell 0
  have i1 := RI.out.cell 1
  have i2 := RI.out.cell 2
  have i3 := RI.out.cell 3
  simp only [List.getElem?_cons_succ, List.getElem?_cons_zero] at i0 i1 i2 i3
  cases ih with
  | false =>
    have E := Lib.hid (EV.out.trans (if_pos rfl))
    clear EV
    go_wp2_with (first
      | (with_reducible refine wpList_storeR rfl 25 (.tmp 2) (.tmp 13) rfl RR.out [.int .i64 0, .int .i64 0, .int .i64 0, .bool false] rfl rfl (lenFd _ _ _ _ _ _ _ _) (sizeAg _ _ _ _) (ag_one _ _ _ _) BB.out (Nat.le_succ _) ?_))
    intro w9 R9 B9 _
    go_wp2_with fail
    exact bodyPost_ret (results_ct rfl _ _ _ (w.heap.size + 1) [.int .i64 0, .int .i64 0, .int .i64 0, .bool false] _ rfl R9.out.range Tryz.underlying25 rfl (sizeAg _ _ _ _)) rfl (by exact ⟨by rw [E.out]; rfl, B9.out⟩)
  | true =>
    have EV2 := Lib.hid (EV.out.trans (if_neg (by decide)))
    clear EV
    cases hv : ivl inn with
    | false =>
      have E := Lib.hid (EV2.out.trans (if_pos hv))
      have K2 := Lib.hid hv
      clear EV2 hv
      go_upto_region 7 with (go_at_call 25; refine (isivl_any _ _).mono ?_; rintro e w' ⟨rfl, rfl⟩; rw [K2.out])
      go_wp2_with (first
        | (with_reducible refine wpList_storeR rfl 25 (.tmp 2) (.tmp 24) rfl RR.out [.int .i64 0, .int .i64 0, .int .i64 0, .bool false] rfl rfl (lenFd _ _ _ _ _ _ _ _) (sizeAg _ _ _ _) (ag_one _ _ _ _) BB.out (Nat.le_succ _) ?_))
      intro w9 R9 B9 _
      go_wp2_with fail
      exact bodyPost_ret (results_ct rfl _ _ _ (w.heap.size + 1) [.int .i64 0, .int .i64 0, .int .i64 0, .bool false] _ rfl R9.out.range Tryz.underlying25 rfl (sizeAg _ _ _ _)) rfl (by exact ⟨by rw [E.out]; rfl, B9.out⟩)
    | true =>
      have E1 := Lib.hid (EV2.out.trans (if_neg (by rw [hv]; decide)))
      have K2 := Lib.hid hv
      clear EV2 hv
      go_upto_region 8 with (go_at_call 25; refine (isivl_any _ _).mono ?_; rintro e w' ⟨rfl, rfl⟩; rw [K2.out])
      have GQ := Lib.hid (adget_any A2 il c2 ips REFR W5 PP.out HIL.out (by omega) (fun p hp => ⟨(PMO.out p hp).1, (PMO.out p hp).2.2.1⟩) (by unfold By REFR; decide) (by decide))
      rw [gotV_eq, show strOfNums REFR = ⟨#[114, 101, 102, 114, 101, 115, 104, 101, 114]⟩ from rfl] at GQ
      have RBY := getPm_by (nm := REFR) PMO.out
      generalize getPm ips REFR = X at *
      have q1 := Lib.hid (lit_beq RBY [117, 97, 99])
      rw [show bl [117, 97, 99] = [117, 97, 99] from rfl] at q1
      clear RBY
      generalize X.isSome = xs at *
      generalize X.getD [] = rv at *
      go_wp2_with fail
      refine GQ.out.mono ?_
      clear GQ i0 i1 i2 i3
      rintro e W7 ⟨rfl, hb⟩
      have RI7 := Lib.hid (RI.out.below hb)
      replace RR := Lib.hid (RR.out.below hb); replace BB := Lib.hid (bthen BB.out hb)
      clear hb PP RI
      have i1 := RI7.out.cell 1
      simp only [List.getElem?_cons_succ, List.getElem?_cons_zero] at i1
      have E := Lib.hid (show R = ⟨0, 0, inn, [117, 97, 99] == rv, 0⟩ by rw [E1.out, Bool.beq_comm (a := rv)] )
      generalize ([117, 97, 99] == rv) = g at *
      have s1 := q1.out
      clear E1 q1
      go_wp2_with (first
        | (with_reducible refine wpList_storeR rfl 25 (.tmp 2) (.tmp 35) rfl RR.out [.int .i64 0, .int .i64 0, .int .i64 inn, .bool g] rfl rfl (lenFd _ _ _ _ _ _ _ _) (sizeAg _ _ _ _) (ag_one _ _ _ _) BB.out (Nat.le_succ _) ?_))
      intro w9 R9 B9 _
      go_wp2_with fail
      exact bodyPost_ret (results_ct rfl _ _ _ (w.heap.size + 1) [.int .i64 0, .int .i64 0, .int .i64 inn, .bool g] _ rfl R9.out.range Tryz.underlying25 rfl (sizeAg _ _ _ _)) rfl (by exact ⟨by rw [E.out]; rfl, B9.out⟩)
end Go.Proofs.YtcnkjgjimcddiaaGreatDoor
namespace Go.Proofs.YtcnkjgjimcddiaaGreatDoor
open Go.RowKit

abbrev MINN : ByteArray := ⟨#[77, 105, 110, 45, 83, 69]⟩
theorem nil_ok : HdOK [] 0 := HdOK.nil
theorem nil_600 : agreeL [] 0 90 600 = ⟨0, 0, 600, false, 0⟩ := by kernel_rfl
theorem nil_bad1 : agreeL [] 0 89 0 = ⟨0, 0, 0, false, 2⟩ := by kernel_rfl
theorem nil_bad2 : agreeL [] 0 90 89 = ⟨0, 0, 0, false, 2⟩ := by kernel_rfl
theorem nil_bad3 : agreeL [] 200 90 0 = ⟨0, 0, 0, false, 2⟩ := by kernel_rfl
def K60 : List (ByteArray × ByteArray) := [(EXPN, ⟨#[54, 48]⟩)]
theorem K60_ok : HdOK K60 1 := HdOK.of rfl (by decide) (by
  intro h hm
  obtain rfl := List.mem_singleton.1 hm
  exact ⟨by decide, by decide, by kernel_rfl, by kernel_rfl⟩) (by decide +kernel)
theorem K60_e1 : (foundL K60 SEXP).e = 0 := by kernel_rfl
theorem K60_e2 : (foundL K60 MINSE).e = 0 := by kernel_rfl
theorem K60_ag : agreeL K60 0 90 0 = ⟨422, 90, 0, false, 0⟩ := by kernel_rfl
def KUAS : List (ByteArray × ByteArray) := [(EXPN, ⟨#[49, 56, 48, 48, 59, 114, 101, 102, 114, 101, 115, 104, 101, 114, 61, 117, 97, 115]⟩)]
theorem KUAS_ok : HdOK KUAS 1 := HdOK.of rfl (by decide) (by
  intro h hm
  obtain rfl := List.mem_singleton.1 hm
  exact ⟨by decide, by decide, by kernel_rfl, by kernel_rfl⟩) (by decide +kernel)
theorem KUAS_e1 : (foundL KUAS SEXP).e = 0 := by kernel_rfl
theorem KUAS_e2 : (foundL KUAS MINSE).e = 0 := by kernel_rfl
theorem KUAS_ag : agreeL KUAS 0 90 0 = ⟨0, 0, 1800, false, 0⟩ := by kernel_rfl
def KUAC : List (ByteArray × ByteArray) := [(EXPN, ⟨#[57, 48, 59, 114, 101, 102, 114, 101, 115, 104, 101, 114, 61, 117, 97, 99]⟩)]
theorem KUAC_ok : HdOK KUAC 1 := HdOK.of rfl (by decide) (by
  intro h hm
  obtain rfl := List.mem_singleton.1 hm
  exact ⟨by decide, by decide, by kernel_rfl, by kernel_rfl⟩) (by decide +kernel)
theorem KUAC_e1 : (foundL KUAC SEXP).e = 0 := by kernel_rfl
theorem KUAC_e2 : (foundL KUAC MINSE).e = 0 := by kernel_rfl
theorem KUAC_ag : agreeL KUAC 0 90 0 = ⟨0, 0, 90, true, 0⟩ := by kernel_rfl
def KMIN : List (ByteArray × ByteArray) := [(MINN, ⟨#[55, 48, 48]⟩)]
theorem KMIN_ok : HdOK KMIN 1 := HdOK.of rfl (by decide) (by
  intro h hm
  obtain rfl := List.mem_singleton.1 hm
  exact ⟨by decide, by decide, by kernel_rfl, by kernel_rfl⟩) (by decide +kernel)
theorem KMIN_e1 : (foundL KMIN SEXP).e = 0 := by kernel_rfl
theorem KMIN_e2 : (foundL KMIN MINSE).e = 0 := by kernel_rfl
theorem KMIN_ag : agreeL KMIN 0 90 600 = ⟨0, 0, 700, false, 0⟩ := by kernel_rfl
def KBIG : List (ByteArray × ByteArray) := [(EXPN, ⟨#[56, 54, 52, 48, 49]⟩)]
theorem KBIG_ok : HdOK KBIG 1 := HdOK.of rfl (by decide) (by
  intro h hm
  obtain rfl := List.mem_singleton.1 hm
  exact ⟨by decide, by decide, by kernel_rfl, by kernel_rfl⟩) (by decide +kernel)
theorem KBIG_e1 : (foundL KBIG SEXP).e = 0 := by kernel_rfl
theorem KBIG_e2 : (foundL KBIG MINSE).e = 0 := by kernel_rfl
theorem KBIG_ag : agreeL KBIG 0 90 0 = ⟨0, 0, 0, false, 2⟩ := by kernel_rfl
def K89 : List (ByteArray × ByteArray) := [(EXPN, ⟨#[56, 57]⟩)]
theorem K89_ok : HdOK K89 1 := HdOK.of rfl (by decide) (by
  intro h hm
  obtain rfl := List.mem_singleton.1 hm
  exact ⟨by decide, by decide, by kernel_rfl, by kernel_rfl⟩) (by decide +kernel)
theorem K89_e1 : (foundL K89 SEXP).e = 0 := by kernel_rfl
theorem K89_told : toldL K89 = ⟨0, 0, 0, false, 2⟩ := by kernel_rfl
theorem guardE (x y : Operand) (xs ys : Array Value) (w : World) : (eqGuard .eql 23 x y (.agg xs) (.agg ys)).run Tryz.prog w = .ok () w := run_eqGuard_agg w .eql _ x y xs ys (by kernel_rfl)
theorem start_c : startV 0 90 true false 0 = .tuple #[.agg #[.int .i64 90, .bool false, .int .i64 0, .bool false, .bool false], .int .u8 0] := by kernel_rfl
theorem start_d : startV 422 0 false true 0 = .tuple #[.agg #[.int .i64 0, .bool false, .int .i64 0, .bool false, .bool false], .int .u8 2] := by kernel_rfl
theorem start_e : startV 0 0 false true 700 = .tuple #[.agg #[.int .i64 0, .bool false, .int .i64 0, .bool false, .bool false], .int .u8 0] := by kernel_rfl
theorem next_c : nextV 90 false 0 false false = .tuple #[.int .i64 60000, .bool true] := by kernel_rfl
theorem next_z : nextV 0 false 0 false false = .tuple #[.int .i64 0, .bool false] := by kernel_rfl
theorem done_c : doneV 90 false 0 false false false 5 = .tuple #[.agg #[.int .i64 0, .bool false, .int .i64 0, .bool false, .bool false], .int .u8 0, .int .u8 9] := by kernel_rfl
theorem done_d : doneV 0 false 0 false false true 5 = .tuple #[.agg #[.int .i64 0, .bool false, .int .i64 0, .bool false, .bool false], .int .u8 0, .int .u8 9] := by kernel_rfl
theorem fire_c : fireV 90 false 0 false false (-1) = .tuple #[.agg #[.int .i64 0, .bool false, .int .i64 0, .bool false, .bool false], .int .u8 0, .int .u8 2] := by kernel_rfl
theorem may_c : mayR 89 false 0 false false = false := by kernel_rfl
theorem sizeHd (a b : Value) : (Tryz.prog.info? 45).map (·.size) = some [a, b].length := show (Tryz.prog.info? 45).map (·.size) = some 2 by kernel_rfl
theorem lenHd (a b c d : Value) : [a, b].length = [c, d].length := rfl
theorem hd_one (a b : ByteArray) : ∀ u ∈ [Value.string a, .string b], u.oneCell' = true := fun u hu => by
  simp at hu
  rcases hu with rfl | rfl <;> rfl
set_option maxRecDepth 100000 in
theorem known1_any (v : ByteArray) (w : World) : Calls Tryz.prog 19 #[.string v] w fun e w' => e = .returned (.agg #[.string EXPN, .string v]) ∧ Below w.heap.size w w' := by
  have B0 := Lib.hid ((Below.refl w.heap.size w).alloc (Nat.le_refl _) (.cells #[.string ⟨#[]⟩, .string ⟨#[]⟩] 45))
  have R0 := Lib.hid (Row.new w 45 [.string ⟨#[]⟩, .string ⟨#[]⟩])
  go_enter Tryz.func19, Tryz.ntmps19
  go_upto_region 1 with (fail)
  generalize w.alloc (.cells #[.string ⟨#[]⟩, .string ⟨#[]⟩] 45) = W at *
  go_wp2_with (with_reducible refine wpList_storeR rfl 45 (.tmp 2) (.tmp 4) rfl R0.out [.string EXPN, .string v] rfl rfl (lenHd _ _ _ _) (sizeHd _ _) (hd_one _ _) B0.out (Nat.le_refl _) ?_)
  intro w9 R9 B9 _
  go_wp2_with fail
  exact bodyPost_ret (results_cell rfl _ _ _ w.heap.size [.string EXPN, .string v] _ rfl R9.out.range Tryz.underlying45 rfl (sizeHd _ _)) rfl (by exact ⟨rfl, B9.out⟩)
set_option maxRecDepth 100000 in
set_option maxHeartbeats 8000000 in
theorem known_any (w : World) (hS : SC w) (hK : KD w) :
    Calls Tryz.prog 6 #[] w fun e w' => e = .returned (.bool true) ∧ Below w.heap.size w w' := by
  have HS := Lib.hid hS; have HK := Lib.hid hK
  clear hS hK
  have ST := Lib.hid (Mine.refl w)
  go_enter Tryz.func6, Tryz.ntmps6
  go_wp2_with fail
  refine (known1_any ⟨#[54, 48]⟩ _).mono ?_
  rintro e X1 ⟨rfl, hb⟩
  replace ST := Lib.hid (ST.out.call hb)
  clear hb
  go_wp2_with fail
  replace ST := Lib.hid ((show Mine w (X1.alloc (.cells #[.string EXPN, .string ⟨#[54, 48]⟩] 45)) ((X1.heap.size, 45, [.string EXPN, .string ⟨#[54, 48]⟩]) :: []) _ from ST.out.alloc 45 [.string EXPN, .string ⟨#[54, 48]⟩]).rest)
  generalize X1.alloc (.cells #[.string EXPN, .string ⟨#[54, 48]⟩] 45) = Y2 at *
  generalize X1.heap.size = b2 at *
  refine (invite19_any (some ⟨b2, 0, none⟩) 1 1 _).mono ?_
  rintro e X3 ⟨rfl, hb⟩
  replace ST := Lib.hid (ST.out.call hb)
  clear hb
  go_wp2_with fail
  refine (agrees_yes INV SIPB ⟨#[]⟩ 0 90 0 422 90 0 false (some ⟨b2, 0, none⟩) none 1 1 0 0 K60 _ (fun _ => ⟨b2, 0, rfl, (show Row _ b2 45 [.string EXPN, .string ⟨#[54, 48]⟩] from ST.out.fact (i := 0) rfl).lt, fun j u hu => by rw [Nat.zero_add, (show Row _ b2 45 [.string EXPN, .string ⟨#[54, 48]⟩] from ST.out.fact (i := 0) rfl).cell]; exact hu⟩) K60_ok (HS.out.below ST.out.bw) (HK.out.below ST.out.bw) K60_e1 K60_e2 K60_ag).mono ?_
  rintro e X4 ⟨rfl, hb⟩
  replace ST := Lib.hid (ST.out.call hb)
  clear hb
  go_wp2_with fail
  refine (known1_any ⟨#[49, 56, 48, 48, 59, 114, 101, 102, 114, 101, 115, 104, 101, 114, 61, 117, 97, 115]⟩ _).mono ?_
  rintro e X5 ⟨rfl, hb⟩
  replace ST := Lib.hid (ST.out.call hb)
  clear hb
  go_wp2_with fail
  replace ST := Lib.hid ((show Mine w (X5.alloc (.cells #[.string EXPN, .string ⟨#[49, 56, 48, 48, 59, 114, 101, 102, 114, 101, 115, 104, 101, 114, 61, 117, 97, 115]⟩] 45)) ((X5.heap.size, 45, [.string EXPN, .string ⟨#[49, 56, 48, 48, 59, 114, 101, 102, 114, 101, 115, 104, 101, 114, 61, 117, 97, 115]⟩]) :: []) _ from ST.out.alloc 45 [.string EXPN, .string ⟨#[49, 56, 48, 48, 59, 114, 101, 102, 114, 101, 115, 104, 101, 114, 61, 117, 97, 115]⟩]).rest)
  generalize X5.alloc (.cells #[.string EXPN, .string ⟨#[49, 56, 48, 48, 59, 114, 101, 102, 114, 101, 115, 104, 101, 114, 61, 117, 97, 115]⟩] 45) = Y6 at *
  generalize X5.heap.size = b6 at *
  refine (invite19_any (some ⟨b6, 0, none⟩) 1 1 _).mono ?_
  rintro e X7 ⟨rfl, hb⟩
  replace ST := Lib.hid (ST.out.call hb)
  clear hb
  go_wp2_with fail
  refine (agrees_yes INV SIPB ⟨#[]⟩ 0 90 0 0 0 1800 false (some ⟨b6, 0, none⟩) none 1 1 0 0 KUAS _ (fun _ => ⟨b6, 0, rfl, (show Row _ b6 45 [.string EXPN, .string ⟨#[49, 56, 48, 48, 59, 114, 101, 102, 114, 101, 115, 104, 101, 114, 61, 117, 97, 115]⟩] from ST.out.fact (i := 0) rfl).lt, fun j u hu => by rw [Nat.zero_add, (show Row _ b6 45 [.string EXPN, .string ⟨#[49, 56, 48, 48, 59, 114, 101, 102, 114, 101, 115, 104, 101, 114, 61, 117, 97, 115]⟩] from ST.out.fact (i := 0) rfl).cell]; exact hu⟩) KUAS_ok (HS.out.below ST.out.bw) (HK.out.below ST.out.bw) KUAS_e1 KUAS_e2 KUAS_ag).mono ?_
  rintro e X8 ⟨rfl, hb⟩
  replace ST := Lib.hid (ST.out.call hb)
  clear hb
  go_wp2_with fail
  refine (invite19_any none 0 0 _).mono ?_
  rintro e X9 ⟨rfl, hb⟩
  replace ST := Lib.hid (ST.out.call hb)
  clear hb
  go_wp2_with fail
  refine (agrees_yes INV SIPB ⟨#[]⟩ 0 90 600 0 0 600 false (none) none 0 0 0 0 [] _ (rds_nil _ _ _) nil_ok (HS.out.below ST.out.bw) (HK.out.below ST.out.bw) nil_e1 nil_e2 nil_600).mono ?_
  rintro e X10 ⟨rfl, hb⟩
  replace ST := Lib.hid (ST.out.call hb)
  clear hb
  go_wp2_with fail
  refine (known1_any ⟨#[57, 48, 59, 114, 101, 102, 114, 101, 115, 104, 101, 114, 61, 117, 97, 99]⟩ _).mono ?_
  rintro e X11 ⟨rfl, hb⟩
  replace ST := Lib.hid (ST.out.call hb)
  clear hb
  go_wp2_with fail
  replace ST := Lib.hid ((show Mine w (X11.alloc (.cells #[.string EXPN, .string ⟨#[57, 48, 59, 114, 101, 102, 114, 101, 115, 104, 101, 114, 61, 117, 97, 99]⟩] 45)) ((X11.heap.size, 45, [.string EXPN, .string ⟨#[57, 48, 59, 114, 101, 102, 114, 101, 115, 104, 101, 114, 61, 117, 97, 99]⟩]) :: []) _ from ST.out.alloc 45 [.string EXPN, .string ⟨#[57, 48, 59, 114, 101, 102, 114, 101, 115, 104, 101, 114, 61, 117, 97, 99]⟩]).rest)
  generalize X11.alloc (.cells #[.string EXPN, .string ⟨#[57, 48, 59, 114, 101, 102, 114, 101, 115, 104, 101, 114, 61, 117, 97, 99]⟩] 45) = Y12 at *
  generalize X11.heap.size = b12 at *
  refine (invite19_any (some ⟨b12, 0, none⟩) 1 1 _).mono ?_
  rintro e X13 ⟨rfl, hb⟩
  replace ST := Lib.hid (ST.out.call hb)
  clear hb
  go_wp2_with fail
  refine (agrees_yes INV SIPB ⟨#[]⟩ 0 90 0 0 0 90 true (some ⟨b12, 0, none⟩) none 1 1 0 0 KUAC _ (fun _ => ⟨b12, 0, rfl, (show Row _ b12 45 [.string EXPN, .string ⟨#[57, 48, 59, 114, 101, 102, 114, 101, 115, 104, 101, 114, 61, 117, 97, 99]⟩] from ST.out.fact (i := 0) rfl).lt, fun j u hu => by rw [Nat.zero_add, (show Row _ b12 45 [.string EXPN, .string ⟨#[57, 48, 59, 114, 101, 102, 114, 101, 115, 104, 101, 114, 61, 117, 97, 99]⟩] from ST.out.fact (i := 0) rfl).cell]; exact hu⟩) KUAC_ok (HS.out.below ST.out.bw) (HK.out.below ST.out.bw) KUAC_e1 KUAC_e2 KUAC_ag).mono ?_
  rintro e X14 ⟨rfl, hb⟩
  replace ST := Lib.hid (ST.out.call hb)
  clear hb
  go_wp2_with fail
  replace ST := Lib.hid ((show Mine w (X14.alloc (.cells #[.string MINN, .string ⟨#[55, 48, 48]⟩] 45)) ((X14.heap.size, 45, [.string MINN, .string ⟨#[55, 48, 48]⟩]) :: []) _ from ST.out.alloc 45 [.string MINN, .string ⟨#[55, 48, 48]⟩]).rest)
  generalize X14.alloc (.cells #[.string MINN, .string ⟨#[55, 48, 48]⟩] 45) = Y15 at *
  generalize X14.heap.size = b15 at *
  refine (invite19_any (some ⟨b15, 0, none⟩) 1 1 _).mono ?_
  rintro e X16 ⟨rfl, hb⟩
  replace ST := Lib.hid (ST.out.call hb)
  clear hb
  go_wp2_with fail
  refine (agrees_yes INV SIPB ⟨#[]⟩ 0 90 600 0 0 700 false (some ⟨b15, 0, none⟩) none 1 1 0 0 KMIN _ (fun _ => ⟨b15, 0, rfl, (show Row _ b15 45 [.string MINN, .string ⟨#[55, 48, 48]⟩] from ST.out.fact (i := 0) rfl).lt, fun j u hu => by rw [Nat.zero_add, (show Row _ b15 45 [.string MINN, .string ⟨#[55, 48, 48]⟩] from ST.out.fact (i := 0) rfl).cell]; exact hu⟩) KMIN_ok (HS.out.below ST.out.bw) (HK.out.below ST.out.bw) KMIN_e1 KMIN_e2 KMIN_ag).mono ?_
  rintro e X17 ⟨rfl, hb⟩
  replace ST := Lib.hid (ST.out.call hb)
  clear hb
  go_wp2_with fail
  refine (invite19_any none 0 0 _).mono ?_
  rintro e X18 ⟨rfl, hb⟩
  replace ST := Lib.hid (ST.out.call hb)
  clear hb
  go_wp2_with fail
  refine (agree_any INV SIPB ⟨#[]⟩ 0 89 0 (none) none 0 0 0 0 [] _ (rds_nil _ _ _) nil_ok (HS.out.below ST.out.bw) (HK.out.below ST.out.bw) nil_e1 nil_e2).mono ?_
  rintro e X19 ⟨rfl, hb⟩
  rw [nil_bad1, show (Ans.mk 0 0 0 false 2).v = .tuple #[.agg #[.int .i64 0, .int .i64 0, .int .i64 0, .bool false], .int .u8 2] from rfl]
  replace ST := Lib.hid (ST.out.call hb)
  clear hb
  go_upto_region 5 with (fail)
  replace ST := Lib.hid ((show Mine w (X19.alloc (.cells #[.int .i64 0, .int .i64 0, .int .i64 0, .bool false] 25)) ((X19.heap.size, 25, [.int .i64 0, .int .i64 0, .int .i64 0, .bool false]) :: []) _ from ST.out.alloc 25 [.int .i64 0, .int .i64 0, .int .i64 0, .bool false]).rest)
  generalize X19.alloc (.cells #[.int .i64 0, .int .i64 0, .int .i64 0, .bool false] 25) = Y20 at *
  generalize X19.heap.size = b20 at *
  go_wp2_with fail
  refine (invite19_any none 0 0 _).mono ?_
  rintro e X21 ⟨rfl, hb⟩
  replace ST := Lib.hid (ST.out.call hb)
  clear hb
  go_wp2_with fail
  refine (agree_any INV SIPB ⟨#[]⟩ 0 90 89 (none) none 0 0 0 0 [] _ (rds_nil _ _ _) nil_ok (HS.out.below ST.out.bw) (HK.out.below ST.out.bw) nil_e1 nil_e2).mono ?_
  rintro e X22 ⟨rfl, hb⟩
  rw [nil_bad2, show (Ans.mk 0 0 0 false 2).v = .tuple #[.agg #[.int .i64 0, .int .i64 0, .int .i64 0, .bool false], .int .u8 2] from rfl]
  replace ST := Lib.hid (ST.out.call hb)
  clear hb
  go_upto_region 6 with (fail)
  replace ST := Lib.hid ((show Mine w (X22.alloc (.cells #[.int .i64 0, .int .i64 0, .int .i64 0, .bool false] 25)) ((X22.heap.size, 25, [.int .i64 0, .int .i64 0, .int .i64 0, .bool false]) :: []) _ from ST.out.alloc 25 [.int .i64 0, .int .i64 0, .int .i64 0, .bool false]).rest)
  generalize X22.alloc (.cells #[.int .i64 0, .int .i64 0, .int .i64 0, .bool false] 25) = Y23 at *
  generalize X22.heap.size = b23 at *
  go_wp2_with fail
  refine (agree_any ⟨#[]⟩ ⟨#[]⟩ ⟨#[]⟩ 200 90 0 (none) none 0 0 0 0 [] _ (rds_nil _ _ _) nil_ok (HS.out.below ST.out.bw) (HK.out.below ST.out.bw) nil_e1 nil_e2).mono ?_
  rintro e X24 ⟨rfl, hb⟩
  rw [nil_bad3, show (Ans.mk 0 0 0 false 2).v = .tuple #[.agg #[.int .i64 0, .int .i64 0, .int .i64 0, .bool false], .int .u8 2] from rfl]
  replace ST := Lib.hid (ST.out.call hb)
  clear hb
  go_upto_region 7 with (fail)
  replace ST := Lib.hid ((show Mine w (X24.alloc (.cells #[.int .i64 0, .int .i64 0, .int .i64 0, .bool false] 25)) ((X24.heap.size, 25, [.int .i64 0, .int .i64 0, .int .i64 0, .bool false]) :: []) _ from ST.out.alloc 25 [.int .i64 0, .int .i64 0, .int .i64 0, .bool false]).rest)
  generalize X24.alloc (.cells #[.int .i64 0, .int .i64 0, .int .i64 0, .bool false] 25) = Y25 at *
  generalize X24.heap.size = b25 at *
  go_wp2_with fail
  refine (known1_any ⟨#[56, 54, 52, 48, 49]⟩ _).mono ?_
  rintro e X26 ⟨rfl, hb⟩
  replace ST := Lib.hid (ST.out.call hb)
  clear hb
  go_wp2_with fail
  replace ST := Lib.hid ((show Mine w (X26.alloc (.cells #[.string EXPN, .string ⟨#[56, 54, 52, 48, 49]⟩] 45)) ((X26.heap.size, 45, [.string EXPN, .string ⟨#[56, 54, 52, 48, 49]⟩]) :: []) _ from ST.out.alloc 45 [.string EXPN, .string ⟨#[56, 54, 52, 48, 49]⟩]).rest)
  generalize X26.alloc (.cells #[.string EXPN, .string ⟨#[56, 54, 52, 48, 49]⟩] 45) = Y27 at *
  generalize X26.heap.size = b27 at *
  refine (invite19_any (some ⟨b27, 0, none⟩) 1 1 _).mono ?_
  rintro e X28 ⟨rfl, hb⟩
  replace ST := Lib.hid (ST.out.call hb)
  clear hb
  go_wp2_with fail
  refine (agree_any INV SIPB ⟨#[]⟩ 0 90 0 (some ⟨b27, 0, none⟩) none 1 1 0 0 KBIG _ (fun _ => ⟨b27, 0, rfl, (show Row _ b27 45 [.string EXPN, .string ⟨#[56, 54, 52, 48, 49]⟩] from ST.out.fact (i := 0) rfl).lt, fun j u hu => by rw [Nat.zero_add, (show Row _ b27 45 [.string EXPN, .string ⟨#[56, 54, 52, 48, 49]⟩] from ST.out.fact (i := 0) rfl).cell]; exact hu⟩) KBIG_ok (HS.out.below ST.out.bw) (HK.out.below ST.out.bw) KBIG_e1 KBIG_e2).mono ?_
  rintro e X29 ⟨rfl, hb⟩
  rw [KBIG_ag, show (Ans.mk 0 0 0 false 2).v = .tuple #[.agg #[.int .i64 0, .int .i64 0, .int .i64 0, .bool false], .int .u8 2] from rfl]
  replace ST := Lib.hid (ST.out.call hb)
  clear hb
  go_upto_region 8 with (fail)
  replace ST := Lib.hid ((show Mine w (X29.alloc (.cells #[.int .i64 0, .int .i64 0, .int .i64 0, .bool false] 25)) ((X29.heap.size, 25, [.int .i64 0, .int .i64 0, .int .i64 0, .bool false]) :: []) _ from ST.out.alloc 25 [.int .i64 0, .int .i64 0, .int .i64 0, .bool false]).rest)
  generalize X29.alloc (.cells #[.int .i64 0, .int .i64 0, .int .i64 0, .bool false] 25) = Y30 at *
  generalize X29.heap.size = b30 at *
  go_wp2_with fail
  refine (known1_any ⟨#[56, 57]⟩ _).mono ?_
  rintro e X31 ⟨rfl, hb⟩
  replace ST := Lib.hid (ST.out.call hb)
  clear hb
  go_wp2_with fail
  replace ST := Lib.hid ((show Mine w (X31.alloc (.cells #[.string EXPN, .string ⟨#[56, 57]⟩] 45)) ((X31.heap.size, 45, [.string EXPN, .string ⟨#[56, 57]⟩]) :: []) _ from ST.out.alloc 45 [.string EXPN, .string ⟨#[56, 57]⟩]).rest)
  generalize X31.alloc (.cells #[.string EXPN, .string ⟨#[56, 57]⟩] 45) = Y32 at *
  generalize X31.heap.size = b32 at *
  refine (told_any ⟨#[]⟩ ⟨#[]⟩ ⟨#[]⟩ 200 (some ⟨b32, 0, none⟩) none 1 1 0 0 K89 _ (fun _ => ⟨b32, 0, rfl, (show Row _ b32 45 [.string EXPN, .string ⟨#[56, 57]⟩] from ST.out.fact (i := 0) rfl).lt, fun j u hu => by rw [Nat.zero_add, (show Row _ b32 45 [.string EXPN, .string ⟨#[56, 57]⟩] from ST.out.fact (i := 0) rfl).cell]; exact hu⟩) K89_ok (HS.out.below ST.out.bw) K89_e1).mono ?_
  rintro e X33 ⟨rfl, hb⟩
  rw [K89_told, show (Ans.mk 0 0 0 false 2).v = .tuple #[.agg #[.int .i64 0, .int .i64 0, .int .i64 0, .bool false], .int .u8 2] from rfl]
  replace ST := Lib.hid (ST.out.call hb)
  clear hb
  go_upto_region 9 with (fail)
  replace ST := Lib.hid ((show Mine w (X33.alloc (.cells #[.int .i64 0, .int .i64 0, .int .i64 0, .bool false] 25)) ((X33.heap.size, 25, [.int .i64 0, .int .i64 0, .int .i64 0, .bool false]) :: []) _ from ST.out.alloc 25 [.int .i64 0, .int .i64 0, .int .i64 0, .bool false]).rest)
  generalize X33.alloc (.cells #[.int .i64 0, .int .i64 0, .int .i64 0, .bool false] 25) = Y34 at *
  generalize X33.heap.size = b34 at *
  go_wp2_with fail
  refine (startt_any 0 0 90 0 true false _).mono ?_
  rintro e X35 ⟨rfl, hb⟩
  rw [start_c]
  replace ST := Lib.hid (ST.out.call hb)
  clear hb
  go_upto_region 10 with (fail)
  replace ST := Lib.hid ((show Mine w (X35.alloc (.cells #[.int .i64 90, .bool false, .int .i64 0, .bool false, .bool false] 23)) ((X35.heap.size, 23, [.int .i64 90, .bool false, .int .i64 0, .bool false, .bool false]) :: []) _ from ST.out.alloc 23 [.int .i64 90, .bool false, .int .i64 0, .bool false, .bool false]).rest)
  generalize X35.alloc (.cells #[.int .i64 90, .bool false, .int .i64 0, .bool false, .bool false] 23) = Y36 at *
  generalize X35.heap.size = b36 at *
  go_wp2_with (with_reducible refine wpList_loadR rfl 23 (.tmp 12) rfl (show Row _ b36 23 [.int .i64 90, .bool false, .int .i64 0, .bool false, .bool false] from ST.out.fact (i := 0) rfl) rfl Tryz.underlying23 rfl (sizeRf _ _ _ _ _) ?_)
  refine (nextt_any 90 0 false false false _).mono ?_
  rintro e X37 ⟨rfl, hb⟩
  rw [next_c]
  replace ST := Lib.hid (ST.out.call hb)
  clear hb
  go_wp2_with fail
  refine (startt_any 422 0 0 0 false true _).mono ?_
  rintro e X38 ⟨rfl, hb⟩
  rw [start_d]
  replace ST := Lib.hid (ST.out.call hb)
  clear hb
  go_upto_region 12 with (fail)
  replace ST := Lib.hid ((show Mine w (X38.alloc (.cells #[.int .i64 0, .bool false, .int .i64 0, .bool false, .bool false] 23)) ((X38.heap.size, 23, [.int .i64 0, .bool false, .int .i64 0, .bool false, .bool false]) :: []) _ from ST.out.alloc 23 [.int .i64 0, .bool false, .int .i64 0, .bool false, .bool false]).rest)
  generalize X38.alloc (.cells #[.int .i64 0, .bool false, .int .i64 0, .bool false, .bool false] 23) = Y39 at *
  generalize X38.heap.size = b39 at *
  go_wp2_with fail
  refine (startt_any 0 0 0 700 false true _).mono ?_
  rintro e X40 ⟨rfl, hb⟩
  rw [start_e]
  replace ST := Lib.hid (ST.out.call hb)
  clear hb
  go_upto_region 13 with (fail)
  replace ST := Lib.hid ((show Mine w (X40.alloc (.cells #[.int .i64 0, .bool false, .int .i64 0, .bool false, .bool false] 23)) ((X40.heap.size, 23, [.int .i64 0, .bool false, .int .i64 0, .bool false, .bool false]) :: []) _ from ST.out.alloc 23 [.int .i64 0, .bool false, .int .i64 0, .bool false, .bool false]).rest)
  generalize X40.alloc (.cells #[.int .i64 0, .bool false, .int .i64 0, .bool false, .bool false] 23) = Y41 at *
  generalize X40.heap.size = b41 at *
  go_wp2_with (with_reducible refine wpList_loadR rfl 23 (.tmp 18) rfl (show Row _ b41 23 [.int .i64 0, .bool false, .int .i64 0, .bool false, .bool false] from ST.out.fact (i := 0) rfl) rfl Tryz.underlying23 rfl (sizeRf _ _ _ _ _) ?_)
  refine (nextt_any 0 0 false false false _).mono ?_
  rintro e X42 ⟨rfl, hb⟩
  rw [next_z]
  replace ST := Lib.hid (ST.out.call hb)
  clear hb
  go_wp2_with (with_reducible refine wpList_loadR rfl 23 (.tmp 12) rfl (show Row _ b36 23 [.int .i64 90, .bool false, .int .i64 0, .bool false, .bool false] from ST.out.fact (i := 2) rfl) rfl Tryz.underlying23 rfl (sizeRf _ _ _ _ _) ?_)
  refine (donet_any 90 0 5 false false false false _).mono ?_
  rintro e X43 ⟨rfl, hb⟩
  rw [done_c]
  replace ST := Lib.hid (ST.out.call hb)
  clear hb
  go_upto_region 15 with (fail)
  replace ST := Lib.hid ((show Mine w (X43.alloc (.cells #[.int .i64 0, .bool false, .int .i64 0, .bool false, .bool false] 23)) ((X43.heap.size, 23, [.int .i64 0, .bool false, .int .i64 0, .bool false, .bool false]) :: []) _ from ST.out.alloc 23 [.int .i64 0, .bool false, .int .i64 0, .bool false, .bool false]).rest)
  generalize X43.alloc (.cells #[.int .i64 0, .bool false, .int .i64 0, .bool false, .bool false] 23) = Y44 at *
  generalize X43.heap.size = b44 at *
  go_wp2_with (with_reducible refine wpList_loadR rfl 23 (.tmp 18) rfl (show Row _ b41 23 [.int .i64 0, .bool false, .int .i64 0, .bool false, .bool false] from ST.out.fact (i := 1) rfl) rfl Tryz.underlying23 rfl (sizeRf _ _ _ _ _) ?_)
  refine (donet_any 0 0 5 false false false true _).mono ?_
  rintro e X45 ⟨rfl, hb⟩
  rw [done_d]
  replace ST := Lib.hid (ST.out.call hb)
  clear hb
  go_upto_region 16 with (fail)
  replace ST := Lib.hid ((show Mine w (X45.alloc (.cells #[.int .i64 0, .bool false, .int .i64 0, .bool false, .bool false] 23)) ((X45.heap.size, 23, [.int .i64 0, .bool false, .int .i64 0, .bool false, .bool false]) :: []) _ from ST.out.alloc 23 [.int .i64 0, .bool false, .int .i64 0, .bool false, .bool false]).rest)
  generalize X45.alloc (.cells #[.int .i64 0, .bool false, .int .i64 0, .bool false, .bool false] 23) = Y46 at *
  generalize X45.heap.size = b46 at *
  go_wp2_with (with_reducible refine wpList_loadR rfl 23 (.tmp 12) rfl (show Row _ b36 23 [.int .i64 90, .bool false, .int .i64 0, .bool false, .bool false] from ST.out.fact (i := 4) rfl) rfl Tryz.underlying23 rfl (sizeRf _ _ _ _ _) ?_)
  refine (firet_any 90 0 (-1) false false false _).mono ?_
  rintro e X47 ⟨rfl, hb⟩
  rw [fire_c]
  replace ST := Lib.hid (ST.out.call hb)
  clear hb
  have k18_0 := ((show Row X47 b41 23 [.int .i64 0, .bool false, .int .i64 0, .bool false, .bool false] from ST.out.fact (i := 2) rfl).alloc (.cells #[.int .i64 0, .bool false, .int .i64 0, .bool false, .bool false] 23)).cell 0
  have k18_1 := ((show Row X47 b41 23 [.int .i64 0, .bool false, .int .i64 0, .bool false, .bool false] from ST.out.fact (i := 2) rfl).alloc (.cells #[.int .i64 0, .bool false, .int .i64 0, .bool false, .bool false] 23)).cell 1
  have k18_2 := ((show Row X47 b41 23 [.int .i64 0, .bool false, .int .i64 0, .bool false, .bool false] from ST.out.fact (i := 2) rfl).alloc (.cells #[.int .i64 0, .bool false, .int .i64 0, .bool false, .bool false] 23)).cell 2
  have k18_3 := ((show Row X47 b41 23 [.int .i64 0, .bool false, .int .i64 0, .bool false, .bool false] from ST.out.fact (i := 2) rfl).alloc (.cells #[.int .i64 0, .bool false, .int .i64 0, .bool false, .bool false] 23)).cell 3
  have k18_4 := ((show Row X47 b41 23 [.int .i64 0, .bool false, .int .i64 0, .bool false, .bool false] from ST.out.fact (i := 2) rfl).alloc (.cells #[.int .i64 0, .bool false, .int .i64 0, .bool false, .bool false] 23)).cell 4
  simp only [List.getElem?_cons_succ, List.getElem?_cons_zero] at k18_0 k18_1 k18_2 k18_3 k18_4
  have hg := guardE; have sR := sameR
  have hse : ∀ (xs ys : Array Value) (w : World), (binOp .eql 23 (.agg xs) (.agg ys)).run Tryz.prog w = ((Op.equalIn 10000 23 (.agg xs) (.agg ys)).run Tryz.prog w).andThen fun b w' => .ok (.bool b) w' := fun xs ys w => run_eql_struct w _ xs ys
  go_wp2_with (first
    | (go_at_call 14; refine (mayt_any _ _ _ _ _ _).mono ?_; rintro e w' ⟨rfl, rfl⟩; rw [may_c]; replace ST := Lib.hid (ST.out.call (((Below.refl _ _).alloc (Nat.le_refl _) (.cells #[.int .i64 0, .bool false, .int .i64 0, .bool false, .bool false] 23)).alloc (by simp) (.cells #[.int .i64 89, .bool false, .int .i64 0, .bool false, .bool false] 23))))
    | (go_at_call 18; refine (works19_any _ (HS.out.below ST.out.bw) (HK.out.below ST.out.bw)).mono ?_; rintro e W9 ⟨rfl, hb9⟩; replace ST := Lib.hid (ST.out.call hb9); clear hb9))
  go_ret
  exact ⟨rfl, ST.out.bw⟩
end Go.Proofs.YtcnkjgjimcddiaaGreatDoor
