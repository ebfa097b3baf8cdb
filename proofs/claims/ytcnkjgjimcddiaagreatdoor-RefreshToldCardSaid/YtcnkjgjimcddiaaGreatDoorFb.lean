/- Contract: refresh.Told, where the header reads well. -/
import Derived.Test.YtcnkjgjimcddiaaGreatDoorAq
namespace Go.Proofs.YtcnkjgjimcddiaaGreatDoor
open Go.RowKit

def toldL (l : List (ByteArray × ByteArray)) : Ans :=
  if (foundL l SEXP).has = false then ⟨0, 0, 0, false, 0⟩
  else if ivl (foundL l SEXP).n = false then ⟨0, 0, 0, false, 2⟩
  else ⟨0, 0, (foundL l SEXP).n, (getPm (foundL l SEXP).ps REFR).getD [] == [117, 97, 99], 0⟩
set_option maxRecDepth 100000 in
set_option maxHeartbeats 4000000 in
theorem told_any (ms uri rsn : ByteArray) (code : Int) (A B : Option Addr) (n c m d : Nat) (l : List (ByteArray × ByteArray)) (w : World) (hA : Rds w w.heap.size A (hds l)) (hl : HdOK l n) (hS : SC w) (h1 : (foundL l SEXP).e = 0) :
    Calls Tryz.prog 23 #[.agg #[.string ms, .string uri, .int .i64 code, .string rsn, .slice A n c, .slice B m d]] w fun e w' => e = .returned (toldL l).v ∧ Below w.heap.size w w' := by
  have HF := Lib.hid hl; have HS := Lib.hid hS; have HA := Lib.hid hA
  have PMO := Lib.hid (foundL_pm hl SEXP)
  have EV := Lib.hid (show toldL l = if (foundL l SEXP).has = false then ⟨0, 0, 0, false, 0⟩
  else if ivl (foundL l SEXP).n = false then ⟨0, 0, 0, false, 2⟩
  else ⟨0, 0, (foundL l SEXP).n, (getPm (foundL l SEXP).ps REFR).getD [] == [117, 97, 99], 0⟩ from rfl)
  generalize toldL l = R at *
  have R3 := Lib.hid ((Row.new w 51 [.string ms, .string uri, .int .i64 code, .string rsn, .slice A n c, .slice B m d]).alloc (.cells #[.int .i64 0, .int .i64 0, .int .i64 0, .bool false] 25))
  have R6 := Lib.hid (show Row ((w.alloc (.cells #[.string ms, .string uri, .int .i64 code, .string rsn, .slice A n c, .slice B m d] 51)).alloc (.cells #[.int .i64 0, .int .i64 0, .int .i64 0, .bool false] 25)) (w.heap.size + 1) 25 [.int .i64 0, .int .i64 0, .int .i64 0, .bool false] by
    have h := Row.new (w.alloc (.cells #[.string ms, .string uri, .int .i64 code, .string rsn, .slice A n c, .slice B m d] 51)) 25 [.int .i64 0, .int .i64 0, .int .i64 0, .bool false]
    rwa [World.size_alloc] at h)
  have B0 := Lib.hid (show Below w.heap.size w ((w.alloc (.cells #[.string ms, .string uri, .int .i64 code, .string rsn, .slice A n c, .slice B m d] 51)).alloc (.cells #[.int .i64 0, .int .i64 0, .int .i64 0, .bool false] 25)) from ((Below.refl _ _).alloc (Nat.le_refl _) _).alloc (by simp) _)
  clear hA hl hS
  go_enter Tryz.func23, Tryz.ntmps23
  go_upto_region 1 with (fail)
  generalize ((w.alloc (.cells #[.string ms, .string uri, .int .i64 code, .string rsn, .slice A n c, .slice B m d] 51)).alloc (.cells #[.int .i64 0, .int .i64 0, .int .i64 0, .bool false] 25)) = W at *
  have HA0 := Lib.hid ((HA.out.below B0.out).up B0.out.size); have HS0 := Lib.hid (HS.out.below B0.out)
  clear HA HS
  go_wp2_with (with_reducible refine wpList_loadR rfl 51 (.tmp 1) rfl R3.out rfl Tryz.underlying51 rfl (size6m _ _ _ _ _ _) ?_)
  refine (reader_any ms uri rsn code A B n c m d W).mono ?_
  rintro e W1 ⟨rfl, rfl⟩
  have BN := Lib.hid ((Below.refl W.heap.size W).alloc (Nat.le_refl _) (.cells #[.string ms, .string uri, .int .i64 code, .string rsn, .slice A n c, .slice B m d] 51))
  have RB1 := Lib.hid (Row.new W 51 [.string ms, .string uri, .int .i64 code, .string rsn, .slice A n c, .slice B m d])
  have R61 := Lib.hid (R6.out.below BN.out); have B1 := Lib.hid (bthen B0.out BN.out)
  have HA1 := Lib.hid ((HA0.out.below BN.out).up BN.out.size); have HS1 := Lib.hid (HS0.out.below BN.out)
  clear R3 R6 B0 HA0 HS0 BN
  generalize W.alloc (.cells #[.string ms, .string uri, .int .i64 code, .string rsn, .slice A n c, .slice B m d] 51) = W1 at *
  generalize W.heap.size = mb at *
  go_wp2_with fail
  have FQ := Lib.hid (found_any ms uri rsn ⟨#[83, 101, 115, 115, 105, 111, 110, 45, 69, 120, 112, 105, 114, 101, 115]⟩ code A B n c m d mb l W1 RB1.out HA1.out HF.out (by decide) HS1.out)
  rw [show byteL ⟨#[83, 101, 115, 115, 105, 111, 110, 45, 69, 120, 112, 105, 114, 101, 115]⟩ = SEXP from rfl] at FQ
  obtain ⟨⟨ih, inn, ips, ie⟩, hI⟩ : ∃ I, foundL l SEXP = I := ⟨_, rfl⟩
  rw [hI] at FQ EV PMO h1
  dsimp only at EV h1 PMO
  subst h1
  clear hI
  refine FQ.out.mono ?_
  clear FQ
  rintro e W3 ⟨A2, c2, rfl, hb, hr, hl16, hfr⟩
  dsimp only at hr hl16 ⊢
  have R63 := Lib.hid (R61.out.below hb); have B3 := Lib.hid (bthen B1.out hb); have P3 := Lib.hid hr
  clear RB1 R61 B1 HA1 HS1 hb hr hfr
  generalize hil : ips.length = il at *
  have HIL := Lib.hid hil
  clear hil
  have BN := Lib.hid ((Below.refl W3.heap.size W3).alloc (Nat.le_refl _) (.cells #[.bool ih, .int .i64 inn, .slice A2 il c2, .int .u8 0] 65))
  have RI := Lib.hid (Row.new W3 65 [.bool ih, .int .i64 inn, .slice A2 il c2, .int .u8 0])
  go_upto_region 2 with (fail)
  generalize W3.alloc (.cells #[.bool ih, .int .i64 inn, .slice A2 il c2, .int .u8 0] 65) = W5 at *
  have RR := Lib.hid (R63.out.below BN.out); have BB := Lib.hid (bthen B3.out BN.out); have PP := Lib.hid ((P3.out.below BN.out).up BN.out.size)
  clear R63 B3 P3 BN
  generalize W3.heap.size = ib at *
  have i0 := RI.out.cell 0
  have i1 := RI.out.cell 1
  have i2 := RI.out.cell 2
  have i3 := RI.out.cell 3
  simp only [List.getElem?_cons_succ, List.getElem?_cons_zero] at i0 i1 i2 i3
  cases ih with
  | false =>
    have E := Lib.hid (EV.out.trans (if_pos rfl))
    clear EV
    go_wp2_with (first
      | (with_reducible refine wpList_storeR rfl 25 (.tmp 2) (.tmp 13) rfl RR.out [.int .i64 0, .int .i64 0, .int .i64 0, .bool false] rfl rfl (lenFd _ _ _ _ _ _ _ _) (sizeAg _ _ _ _) (ag_one _ _ _ _) BB.out (Nat.le_succ _) ?_))
    intro w9 R9 B9 _
    go_wp2_with fail
    exact bodyPost_ret (results_ct rfl _ _ _ (w.heap.size + 1) [.int .i64 0, .int .i64 0, .int .i64 0, .bool false] _ rfl R9.out.range Tryz.underlying25 rfl (sizeAg _ _ _ _)) rfl (by exact ⟨by rw [E.out]; rfl, B9.out⟩)
  | true =>
    have EV2 := Lib.hid (EV.out.trans (if_neg (by decide)))
    clear EV
    cases hv : ivl inn with
    | false =>
      have E := Lib.hid (EV2.out.trans (if_pos hv))
      have K2 := Lib.hid hv
      clear EV2 hv
      go_upto_region 7 with (go_at_call 25; refine (isivl_any _ _).mono ?_; rintro e w' ⟨rfl, rfl⟩; rw [K2.out])
      go_wp2_with (first
        | (with_reducible refine wpList_storeR rfl 25 (.tmp 2) (.tmp 24) rfl RR.out [.int .i64 0, .int .i64 0, .int .i64 0, .bool false] rfl rfl (lenFd _ _ _ _ _ _ _ _) (sizeAg _ _ _ _) (ag_one _ _ _ _) BB.out (Nat.le_succ _) ?_))
      intro w9 R9 B9 _
      go_wp2_with fail
      exact bodyPost_ret (results_ct rfl _ _ _ (w.heap.size + 1) [.int .i64 0, .int .i64 0, .int .i64 0, .bool false] _ rfl R9.out.range Tryz.underlying25 rfl (sizeAg _ _ _ _)) rfl (by exact ⟨by rw [E.out]; rfl, B9.out⟩)
    | true =>
      have E1 := Lib.hid (EV2.out.trans (if_neg (by rw [hv]; decide)))
      have K2 := Lib.hid hv
      clear EV2 hv
      go_upto_region 8 with (go_at_call 25; refine (isivl_any _ _).mono ?_; rintro e w' ⟨rfl, rfl⟩; rw [K2.out])
      have GQ := Lib.hid (adget_any A2 il c2 ips REFR W5 PP.out HIL.out (by omega) (fun p hp => ⟨(PMO.out p hp).1, (PMO.out p hp).2.2.1⟩) (by unfold By REFR; decide) (by decide))
      rw [gotV_eq, show strOfNums REFR = ⟨#[114, 101, 102, 114, 101, 115, 104, 101, 114]⟩ from rfl] at GQ
      have RBY := getPm_by (nm := REFR) PMO.out
      generalize getPm ips REFR = X at *
      have q1 := Lib.hid (lit_beq RBY [117, 97, 99])
      rw [show bl [117, 97, 99] = [117, 97, 99] from rfl] at q1
      clear RBY
      generalize X.isSome = xs at *
      generalize X.getD [] = rv at *
      go_wp2_with fail
      refine GQ.out.mono ?_
      clear GQ i0 i1 i2 i3
      rintro e W7 ⟨rfl, hb⟩
      have RI7 := Lib.hid (RI.out.below hb)
      replace RR := Lib.hid (RR.out.below hb); replace BB := Lib.hid (bthen BB.out hb)
      clear hb PP RI
      have i1 := RI7.out.cell 1
      simp only [List.getElem?_cons_succ, List.getElem?_cons_zero] at i1
      have E := Lib.hid (show R = ⟨0, 0, inn, [117, 97, 99] == rv, 0⟩ by rw [E1.out, Bool.beq_comm (a := rv)] )
      generalize ([117, 97, 99] == rv) = g at *
      have s1 := q1.out
      clear E1 q1
      go_wp2_with (first
        | (with_reducible refine wpList_storeR rfl 25 (.tmp 2) (.tmp 35) rfl RR.out [.int .i64 0, .int .i64 0, .int .i64 inn, .bool g] rfl rfl (lenFd _ _ _ _ _ _ _ _) (sizeAg _ _ _ _) (ag_one _ _ _ _) BB.out (Nat.le_succ _) ?_))
      intro w9 R9 B9 _
      go_wp2_with fail
      exact bodyPost_ret (results_ct rfl _ _ _ (w.heap.size + 1) [.int .i64 0, .int .i64 0, .int .i64 inn, .bool g] _ rfl R9.out.range Tryz.underlying25 rfl (sizeAg _ _ _ _)) rfl (by exact ⟨by rw [E.out]; rfl, B9.out⟩)
end Go.Proofs.YtcnkjgjimcddiaaGreatDoor
