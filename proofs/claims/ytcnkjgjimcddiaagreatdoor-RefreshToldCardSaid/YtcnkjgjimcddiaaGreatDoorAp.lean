/- Contracts: refresh.supports, the function that reader returns. -/
import Derived.Test.YtcnkjgjimcddiaaGreatDoorAo
import Derived.Test.YtcnkjgjimcddiaaGreatDoorAf
namespace Go.Proofs.YtcnkjgjimcddiaaGreatDoor
open Go.RowKit

theorem size6m (a b c d e f : Value) : (Tryz.prog.info? 51).map (·.size) = some [a, b, c, d, e, f].length := show (Tryz.prog.info? 51).map (·.size) = some 6 by kernel_rfl
theorem elemsL_by {v : List Int} (hv : By v) : ∀ t ∈ elemsL v, By t := fun t ht => by
  unfold elemsL at ht
  cases hq : listL v with
  | error k =>
    rw [hq] at ht
    obtain rfl := List.mem_singleton.1 ht
    exact hv
  | ok l =>
    rw [hq] at ht
    unfold listL at hq
    split at hq
    · cases hq
    split at hq
    · injection hq with hq
      subst hq
      obtain ⟨p, hp, rfl⟩ := List.mem_map.1 ht
      exact hv.sub ((splitL_ok v 44).1 p hp)
    · cases hq
theorem allH_by (l : List (ByteArray × ByteArray)) (nm : List Int) : ∀ t ∈ allH l nm, By t := fun t ht => by
  unfold allH at ht
  obtain ⟨h, _, h2⟩ := List.mem_flatMap.1 ht
  split at h2
  · exact elemsL_by (byteL_by _) t h2
  · obtain rfl := List.mem_singleton.1 h2
    exact byteL_by _
theorem containsX {w wr : World} {v : Value} {l : List (List Int)} (H : SXL w v l wr) (hl : ∀ t ∈ l, By t) (hz : l.length ≤ 1000000) (x : ByteArray) :
    Calls Tryz.prog 46 #[v, .string x] wr fun e w' => e = .returned (.bool (l.contains (byteL x))) ∧ wr = w' := by
  rcases H.form with ⟨rfl, h1, h2⟩ | ⟨g, cap, rfl, hcap, _, hlt, hc⟩
  · obtain rfl := List.eq_nil_of_length_eq_zero h1
    exact (Tryz.slices_Contains_string_empty none 0 x wr).mono fun e w' ⟨he, hw⟩ => ⟨he, hw.symm⟩
  · have hzl : (l.map strOfNums).length = l.length := by simp
    refine (Tryz.slices_Contains_string g 0 l.length cap (l.map strOfNums) x wr (by rw [hzl]; exact Nat.le_refl _) (by omega) fun j hj => ?_).mono fun e w' ⟨he, hw⟩ => ⟨?_, hw.symm⟩
    · rw [Nat.zero_add]
      have hj2 : j < l.length := by rw [← hzl]; exact hj
      refine hc j _ ?_
      unfold strs
      rw [List.getElem?_map, List.getElem?_eq_getElem hj2, List.getD_eq_getElem?_getD, List.getElem?_map, List.getElem?_eq_getElem hj2]
      rfl
    · rw [he, List.take_of_length_le (by rw [hzl]; exact Nat.le_refl _), contains_by, List.map_map]
      congr 3
      conv => rhs; rw [← List.map_id l]
      exact List.map_congr_left fun t ht => byteL_str (hl t ht)
def SUPP : List Int := [83, 117, 112, 112, 111, 114, 116, 101, 100]
def TIMER : List Int := [116, 105, 109, 101, 114]
/-- A message whose headers can be read. -/
structure HdOK (l : List (ByteArray × ByteArray)) (n : Nat) : Prop where
  len : l.length = n
  max : n ≤ 16000000
  hs : ∀ h ∈ l, h.1.size ≤ 4000000 ∧ h.2.size ≤ 4000000 ∧ elemsL (byteL h.2) ≠ [] ∧ ¬ (91 : Int) ∈ byteL h.2
  tot : ∀ nm, (allH l nm).length ≤ 1000000
set_option maxRecDepth 100000 in
theorem supports_any (ms uri rsn : ByteArray) (code : Int) (A B : Option Addr) (n c m d : Nat) (l : List (ByteArray × ByteArray)) (w : World) (hA : Rds w w.heap.size A (hds l)) (hl : HdOK l n) (hS : SC w) (hK : KD w) :
    Calls Tryz.prog 35 #[.agg #[.string ms, .string uri, .int .i64 code, .string rsn, .slice A n c, .slice B m d]] w fun e w' => e = .returned (.bool ((allH l SUPP).contains TIMER)) ∧ Below w.heap.size w w' := by
  have R := Lib.hid (Row.new w 51 [.string ms, .string uri, .int .i64 code, .string rsn, .slice A n c, .slice B m d])
  have B0 := Lib.hid ((Below.refl w.heap.size w).alloc (Nat.le_refl _) (.cells #[.string ms, .string uri, .int .i64 code, .string rsn, .slice A n c, .slice B m d] 51))
  have AQ := Lib.hid (all_any ms uri rsn ⟨#[83, 117, 112, 112, 111, 114, 116, 101, 100]⟩ code A B n c m d l _ ((hA.below B0.out).up B0.out.size) hl.len hl.max (fun h hh => ⟨(hl.hs h hh).1, (hl.hs h hh).2.1, (hl.hs h hh).2.2.1⟩) (by decide) (Nat.le_trans (hl.tot _) (by decide)) (hS.below B0.out) (hK.below B0.out))
  rw [show byteL ⟨#[83, 117, 112, 112, 111, 114, 116, 101, 100]⟩ = SUPP from rfl] at AQ
  have BY := Lib.hid (allH_by l SUPP)
  have LN := Lib.hid (hl.tot SUPP)
  clear hA hl hS hK
  generalize allH l SUPP = L at *
  go_enter Tryz.func35, Tryz.ntmps35
  go_upto_region 1 with (fail)
  generalize w.alloc (.cells #[.string ms, .string uri, .int .i64 code, .string rsn, .slice A n c, .slice B m d] 51) = W at *
  go_wp2_with (with_reducible refine wpList_loadR rfl 51 (.tmp 1) rfl R.out rfl Tryz.underlying51 rfl (size6m _ _ _ _ _ _) ?_)
  refine AQ.out.mono ?_
  clear AQ
  rintro e W1 ⟨v, rfl, hv⟩
  have CQ := Lib.hid (containsX hv BY.out LN.out ⟨#[116, 105, 109, 101, 114]⟩)
  rw [show byteL ⟨#[116, 105, 109, 101, 114]⟩ = TIMER from rfl] at CQ
  have B1 := Lib.hid (bthen B0.out hv.bw)
  clear hv
  go_wp2_with fail
  refine CQ.out.mono ?_
  rintro e w' ⟨rfl, rfl⟩
  go_wp2_with fail
  go_ret
  exact ⟨ret_bool (by simp), B1.out⟩
/-- What a header of a name says. -/
structure Fnd where
  has : Bool
  n : Int
  ps : List Pm
  e : Int
def foundV (v : List Int) : Fnd := match itemL v with
  | .error k => ⟨true, 0, [], k⟩
  | .ok q => ⟨true, (decnL (trimB q.1)).1, q.2, (decnL (trimB q.1)).2⟩
def foundL (l : List (ByteArray × ByteArray)) (nm : List Int) : Fnd := match getH l nm with
  | none => ⟨false, 0, [], 0⟩
  | some k => foundV (byteL (l.getD k (⟨#[]⟩, ⟨#[]⟩)).2)
def FoundP (w : World) (F : Fnd) (e : Ending) (w' : World) : Prop := ∃ A c, e = .returned (.agg #[.bool F.has, .int .i64 F.n, .slice A F.ps.length c, .int .u8 F.e]) ∧ Below w.heap.size w w' ∧ Rds w' w'.heap.size A (pms F.ps) ∧ F.ps.length ≤ 16 ∧ ∀ b o s, A = some ⟨b, o, s⟩ → w.heap.size ≤ b
theorem sizeFd (a b c d : Value) : (Tryz.prog.info? 65).map (·.size) = some [a, b, c, d].length := show (Tryz.prog.info? 65).map (·.size) = some 4 by kernel_rfl
theorem lenFd (a b c d a' b' c' d' : Value) : [a, b, c, d].length = [a', b', c', d'].length := rfl
theorem fd_one (a : Bool) (b : Int) (A : Option Addr) {n c : Nat} (k : Int) : ∀ u ∈ [Value.bool a, .int .i64 b, .slice A n c, .int .u8 k], u.oneCell' = true := fun u hu => by
  simp at hu
  rcases hu with rfl | rfl | rfl | rfl <;> rfl
theorem FoundP.mk {w w' : World} {F : Fnd} {h : Bool} {n k : Int} {l : List Pm} {A : Option Addr} {c : Nat} (hF : F = ⟨h, n, l, k⟩) (hb : Below w.heap.size w w') (hr : Rds w' w'.heap.size A (pms l)) (hl : l.length ≤ 16) (hf : ∀ b o s, A = some ⟨b, o, s⟩ → w.heap.size ≤ b) : FoundP w F (.returned (.agg #[.bool h, .int .i64 n, .slice A l.length c, .int .u8 k])) w' := by
  subst hF; exact ⟨A, c, rfl, hb, hr, hl, hf⟩
theorem rds_nil (w : World) (B : Nat) (A : Option Addr) : Rds w B A [] := fun h => absurd h (by simp)
set_option maxRecDepth 100000 in
set_option maxHeartbeats 2000000 in
theorem found_any (ms uri rsn nm : ByteArray) (code : Int) (A B : Option Addr) (n c m d mb : Nat) (l : List (ByteArray × ByteArray)) (w : World) (hR : Row w mb 51 [.string ms, .string uri, .int .i64 code, .string rsn, .slice A n c, .slice B m d]) (hA : Rds w w.heap.size A (hds l)) (hl : HdOK l n) (hM : nm.size ≤ 4000000) (hS : SC w) :
    Calls Tryz.prog 41 #[.string nm, .pointer (some ⟨mb, 0, none⟩)] w (FoundP w (foundL l (byteL nm))) := by
  have MK := Lib.hid (fun w' h n k l' A c hF hb hr hl hf => FoundP.mk (w := w) (w' := w') (F := foundL l (byteL nm)) (h := h) (n := n) (k := k) (l := l') (A := A) (c := c) hF hb hr hl hf)
  have B0 := Lib.hid ((Below.refl w.heap.size w).alloc (Nat.le_refl _) (.cells #[.bool false, .int .i64 0, .slice none 0 0, .int .u8 0] 65))
  have R0 := Lib.hid (Row.new w 65 [.bool false, .int .i64 0, .slice none 0 0, .int .u8 0])
  have RM := Lib.hid (hR.below B0.out)
  have GQ := Lib.hid (getm_any ms uri rsn nm code A B n c m d l _ ((hA.below B0.out).up B0.out.size) hl.len hl.max (fun h hh => (hl.hs h hh).1) hM (hS.below B0.out))
  have FE := Lib.hid (show foundL l (byteL nm) = match getH l (byteL nm) with
    | none => ⟨false, 0, [], 0⟩
    | some k => foundV (byteL (l.getD k (⟨#[]⟩, ⟨#[]⟩)).2) from rfl)
  have GS := Lib.hid (fun k (h : getH l (byteL nm) = some k) => show (l.getD k (⟨#[]⟩, ⟨#[]⟩)).2.size ≤ 4000000 ∧ ¬ (91 : Int) ∈ byteL (l.getD k (⟨#[]⟩, ⟨#[]⟩)).2 from by
    obtain ⟨h1, _⟩ := List.findIdx?_eq_some_iff_getElem.1 h
    have h2 : l.getD k (⟨#[]⟩, ⟨#[]⟩) ∈ l := by
      rw [List.getD_eq_getElem?_getD, List.getElem?_eq_getElem h1]
      exact List.getElem_mem _
    exact ⟨(hl.hs _ h2).2.1, (hl.hs _ h2).2.2.2⟩)
  generalize FoundP w (foundL l (byteL nm)) = PP at *
  generalize foundL l (byteL nm) = F at *
  generalize getH l (byteL nm) = G at *
  clear hR hA hl hS
  go_enter Tryz.func41, Tryz.ntmps41
  go_upto_region 1 with (fail)
  generalize w.alloc (.cells #[.bool false, .int .i64 0, .slice none 0 0, .int .u8 0] 65) = W at *
  go_wp2_with (with_reducible refine wpList_loadR rfl 51 (.tmp 1) rfl RM.out rfl Tryz.underlying51 rfl (size6m _ _ _ _ _ _) ?_)
  refine GQ.out.mono ?_
  clear GQ
  rintro e W1 ⟨rfl, hb⟩
  have B1 := Lib.hid (bthen B0.out hb)
  have R1 := Lib.hid (R0.out.below hb)
  clear hb B0 R0 RM
  cases G with
  | none =>
    have E := Lib.hid (show F = ⟨false, 0, [], 0⟩ from FE.out)
    rw [show getHV l none = .tuple #[.string ⟨#[]⟩, .bool false] from rfl]
    go_wp2_with (with_reducible refine wpList_storeR rfl 65 (.tmp 3) (.tmp 17) rfl R1.out [.bool false, .int .i64 0, .slice none 0 0, .int .u8 0] rfl rfl (lenFd _ _ _ _ _ _ _ _) (sizeFd _ _ _ _) (fd_one _ _ _ _) B1.out (Nat.le_refl _) ?_)
    intro w9 R9 B9 _
    go_wp2_with fail
    exact bodyPost_ret (results_cell rfl _ _ _ w.heap.size [.bool false, .int .i64 0, .slice none 0 0, .int .u8 0] _ rfl R9.out.range Tryz.underlying65 rfl (sizeFd _ _ _ _)) rfl (by exact MK.out _ _ _ _ [] none 0 E.out B9.out (rds_nil _ _ _) (by decide) (fun b o s he => by cases he))
  | some k =>
    have E := Lib.hid (show F = foundV (byteL (l.getD k (⟨#[]⟩, ⟨#[]⟩)).2) from FE.out)
    obtain ⟨s1, s2⟩ := GS.out k rfl
    rw [show getHV l (some k) = .tuple #[.string (l.getD k (⟨#[]⟩, ⟨#[]⟩)).2, .bool true] from rfl]
    generalize (l.getD k (⟨#[]⟩, ⟨#[]⟩)).2 = hv at *
    have IQ := Lib.hid (fun w => item_any hv w s1 s2)
    have E2 := Lib.hid (show F = match itemL (byteL hv) with
      | .error k => ⟨true, 0, [], k⟩
      | .ok q => ⟨true, (decnL (trimB q.1)).1, q.2, (decnL (trimB q.1)).2⟩ from E.out)
    have IT := Lib.hid (fun t ps (h : itemL (byteL hv) = .ok (t, ps)) => show By t ∧ t.length ≤ 4000000 from item_text (byteL_by hv) (by rw [byteL_len]; exact s1) h)
    generalize itemL (byteL hv) = I at *
    clear E FE GS s1 s2
    go_wp2_with fail
    refine (IQ.out W1).mono ?_
    clear IQ
    intro e W2 hq
    cases I with
    | error kk =>
      obtain ⟨rfl, hb, hk⟩ := hq
      have hkn : (kk != 0) = true := by simpa using hk
      have B2 := Lib.hid (bthen B1.out hb)
      have R2 := Lib.hid (R1.out.below hb)
      have BN := Lib.hid ((Below.refl W2.heap.size W2).alloc (Nat.le_refl _) (.cells #[.string ⟨#[]⟩, .slice none 0 0] 77))
      have B3 := Lib.hid (bthen B2.out BN.out)
      have R3 := Lib.hid (R2.out.below BN.out)
      have E3 := Lib.hid (show F = ⟨true, 0, [], kk⟩ from E2.out)
      clear hb B1 R1 B2 R2 BN E2
      go_upto_region 6 with (fail)
      generalize W2.alloc (.cells #[.string ⟨#[]⟩, .slice none 0 0] 77) = W3 at *
      go_wp2_with (with_reducible refine wpList_storeR rfl 65 (.tmp 3) (.tmp 26) rfl R3.out [.bool true, .int .i64 0, .slice none 0 0, .int .u8 kk] rfl rfl (lenFd _ _ _ _ _ _ _ _) (sizeFd _ _ _ _) (fd_one _ _ _ _) B3.out (Nat.le_refl _) ?_)
      intro w9 R9 B9 _
      go_wp2_with fail
      exact bodyPost_ret (results_cell rfl _ _ _ w.heap.size [.bool true, .int .i64 0, .slice none 0 0, .int .u8 kk] _ rfl R9.out.range Tryz.underlying65 rfl (sizeFd _ _ _ _)) rfl (by exact MK.out _ _ _ _ [] none 0 E3.out B9.out (rds_nil _ _ _) (by decide) (fun b o s he => by cases he))
    | ok q =>
      obtain ⟨t, ps⟩ := q
      obtain ⟨A2, c2, rfl, hb, hr, hl16, _, hfr⟩ := hq
      have W1S := Lib.hid R1.out.lt
      have A2N := Lib.hid (fun b o s (he : A2 = some ⟨b, o, s⟩) => show b ≠ w.heap.size ∧ w.heap.size ≤ b from by
        have h1 := hfr b o s he
        have h2 := W1S.out
        omega)
      obtain ⟨tb, tl⟩ := IT.out t ps rfl
      have B2 := Lib.hid (bthen B1.out hb)
      have R2 := Lib.hid (R1.out.below hb)
      have BN := Lib.hid ((Below.refl W2.heap.size W2).alloc (Nat.le_refl _) (.cells #[.string (strOfNums t), .slice A2 ps.length c2] 77))
      have RI := Lib.hid (Row.new W2 77 [.string (strOfNums t), .slice A2 ps.length c2])
      have B3 := Lib.hid (bthen B2.out BN.out)
      have R3 := Lib.hid (R2.out.below BN.out)
      have P3 := Lib.hid ((hr.below BN.out).up BN.out.size)
      have E3 := Lib.hid (show F = ⟨true, (decnL (trimB t)).1, ps, (decnL (trimB t)).2⟩ from E2.out)
      have DQ := Lib.hid (fun w => hdnumber_any (strOfNums t) w (by rw [num_size]; exact tl))
      rw [byteL_str tb] at DQ
      obtain ⟨⟨dn, de⟩, hD⟩ : ∃ D, decnL (trimB t) = D := ⟨_, rfl⟩
      rw [hD] at DQ E3
      dsimp only at E3 ⊢
      generalize hpl : ps.length = pl at *
      have HPL := Lib.hid hpl
      clear hb B1 R1 B2 R2 BN E2 hr hD tb tl IT hpl
      go_upto_region 7 with (fail)
      generalize W2.alloc (.cells #[.string (strOfNums t), .slice A2 pl c2] 77) = W3 at *
      generalize W2.heap.size = ib at *
      have k0 := RI.out.cell 0
      simp only [List.getElem?_cons_succ, List.getElem?_cons_zero] at k0
      go_wp2_with fail
      refine (DQ.out W3).mono ?_
      rintro e W4 ⟨rfl, hb⟩
      have B4 := Lib.hid (bthen B3.out hb)
      have R4 := Lib.hid (R3.out.below hb)
      have k1 := (RI.out.below hb).cell 1
      simp only [List.getElem?_cons_succ, List.getElem?_cons_zero] at k1
      have P4 := Lib.hid ((P3.out.below hb).up hb.size)
      clear hb B3 R3 k0 RI P3 DQ
      rw [show decV (dn, de) = .tuple #[.int .i64 dn, .int .u8 de] from rfl]
      go_wp2_with (with_reducible refine wpList_storeR rfl 65 (.tmp 3) (.tmp 37) rfl R4.out [.bool true, .int .i64 dn, .slice A2 pl c2, .int .u8 de] rfl rfl (lenFd _ _ _ _ _ _ _ _) (sizeFd _ _ _ _) (fd_one _ _ _ _) B4.out (Nat.le_refl _) ?_)
      intro w9 R9 B9 H9
      go_wp2_with fail
      exact bodyPost_ret (results_cell rfl _ _ _ w.heap.size [.bool true, .int .i64 dn, .slice A2 pl c2, .int .u8 de] _ rfl R9.out.range Tryz.underlying65 rfl (sizeFd _ _ _ _)) rfl (by rw [← HPL.out]; exact MK.out _ _ _ _ ps A2 c2 E3.out B9.out (P4.out.heapR (fun b o s he => (A2N.out b o s he).1) H9.out.1 H9.out.2) (by rw [HPL.out]; exact hl16) (fun b o s he => (A2N.out b o s he).2))
end Go.Proofs.YtcnkjgjimcddiaaGreatDoor
