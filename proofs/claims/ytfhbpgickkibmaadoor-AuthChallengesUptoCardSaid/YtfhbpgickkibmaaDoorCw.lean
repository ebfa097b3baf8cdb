/- Contracts: quality; the reference 07's get, has, words, among. -/
import Derived.Test.YtfhbpgickkibmaaDoorCv
import Derived.Test.YtfhbpgickkibmaaDoorPg
namespace Go.Proofs.YtfhbpgickkibmaaDoor
open Go.RowKit

def QUAL (b : Bool) : List Int := if b = true then [97, 117, 116, 104, 45, 105, 110, 116] else [97, 117, 116, 104]
theorem quality_any (b : Bool) (w : World) : Calls Tryd.prog 17 #[.bool b] w fun e w' => e = .returned (.string (strOfNums (QUAL b))) ∧ w = w' := by
  go_enter Tryd.func17, Tryd.ntmps17
  cases b
  · go_wp2
    go_ret
    exact ⟨rfl, rfl⟩
  · go_wp2
    go_ret
    exact ⟨rfl, rfl⟩
def gotL (ps : List Prm) (nm : List Int) : List Int := (getP ps nm).getD []
theorem gets_any (A : Option Addr) (n c : Nat) (ps : List Prm) (nm : ByteArray) (w : World) (hA : Rds w w.heap.size A (prms ps)) (hn : ps.length = n) (hP : ∀ p ∈ ps, prmBy p) (hN : n ≤ 16000000) (hs : nm.size ≤ 4000000) :
    Calls Tryd.prog 21 #[.slice A n c, .string nm] w fun e w' => e = .returned (.string (strOfNums (gotL ps (byteL nm)))) ∧ Below w.heap.size w w' := by
  have HA := Lib.hid hA; have HN := Lib.hid hn; have HP := Lib.hid hP
  clear hA hn hP
  have GE := Lib.hid (show gotL ps (byteL nm) = (getP ps (byteL nm)).getD [] from rfl)
  go_enter Tryd.func21, Tryd.ntmps21
  go_wp2_with fail
  refine (get_any A n c ps nm _ HA.out HN.out HP.out hN hs).mono ?_
  rintro e w1 ⟨rfl, hb1⟩
  have B1 := Lib.hid hb1; clear hb1
  cases hg : getP ps (byteL nm) with
  | none =>
    have E := Lib.hid (show gotL ps (byteL nm) = [] by rw [GE.out, hg]; rfl)
    clear hg
    rw [show getV none = .tuple #[.string ⟨#[]⟩, .bool false] from rfl]
    go_wp2_with fail
    go_ret
    exact ⟨by rw [E.out]; rfl, B1.out⟩
  | some v =>
    have E := Lib.hid (show gotL ps (byteL nm) = v by rw [GE.out, hg]; rfl)
    clear hg
    rw [show getV (some v) = .tuple #[.string (strOfNums v), .bool true] from rfl]
    go_wp2_with fail
    go_ret
    exact ⟨by rw [E.out]; rfl, B1.out⟩
def hasL (ps : List Prm) (ns : List (List Int)) : Bool := ns.all fun n => (getP ps n).isSome
set_option maxRecDepth 100000 in
theorem has_any (A A2 : Option Addr) (n c n2 c2 : Nat) (ps : List Prm) (zs : List ByteArray) (w : World) (hA : Rds w w.heap.size A (prms ps)) (hn : ps.length = n) (hP : ∀ p ∈ ps, prmBy p) (hN : n ≤ 16000000)
    (hA2 : Rds w w.heap.size A2 (zs.map Value.string)) (hn2 : zs.length = n2) (hz : ∀ z ∈ zs, z.size ≤ 4000000) (hN2 : n2 ≤ 16000000) :
    Calls Tryd.prog 19 #[.slice A n c, .slice A2 n2 c2] w fun e w' => e = .returned (.bool (hasL ps (zs.map byteL))) ∧ Below w.heap.size w w' := by
  have HA := Lib.hid hA; have HN := Lib.hid hn; have HP := Lib.hid hP; have HA2 := Lib.hid hA2; have HN2 := Lib.hid hn2; have HZ := Lib.hid hz
  clear hA hn hP hA2 hn2 hz
  go_enter Tryd.func19, Tryd.ntmps19
  go_wp2_with fail
  go_loopw [5] (fun v wr => ∃ k : Nat, k ≤ n2 ∧ v = .int .i64 k ∧ Hid (Below w.heap.size w wr ∧ hasL ps (zs.map byteL) = hasL ps ((zs.map byteL).drop k))) (fun v _ => n2 - (intOf v).toNat)
  case atStart => exact ⟨0, Nat.zero_le _, rfl, Lib.hid ⟨Below.refl _ _, rfl⟩⟩
  case round =>
    obtain ⟨k, hk, rfl, H⟩ := hrel
    by_cases hlt : k < n2
    · obtain ⟨z, hz⟩ : ∃ z, zs[k]? = some z := ⟨_, List.getElem?_eq_getElem (by rw [HN2.out]; exact hlt)⟩
      have hzs := HZ.out z (List.mem_of_getElem? hz)
      have DT := Lib.hid (show (zs.map byteL).drop k = byteL z :: (zs.map byteL).drop (k + 1) by
        obtain ⟨hl, rfl⟩ := List.getElem?_eq_some_iff.1 hz
        rw [List.drop_eq_getElem_cons (by simpa using hl), List.getElem_map])
      obtain ⟨ab, ao, rfl, hab, hac⟩ := HA2.out (by rw [List.length_map, HN2.out]; omega)
      have c1 : wr.cell? ⟨ab, ao + k, none⟩ = some (.string z) := (H.out.1.cell (p := ⟨ab, ao + k, none⟩) hab).trans (hac k _ (by rw [List.getElem?_map, hz]; rfl))
      have hd : decide (k < n2) = true := by simp [hlt]
      clear hac hab hz
      go_wp2_with fail
      clear c1
      refine (get_any A n c ps z _ ((HA.out.below H.out.1).up H.out.1.size) HN.out HP.out hN hzs).mono ?_
      rintro e w1 ⟨rfl, hb1⟩
      have B1 := Lib.hid (bthen H.out.1 hb1); clear hb1
      cases hg : getP ps (byteL z) with
      | none =>
        have E := Lib.hid (show hasL ps (zs.map byteL) = false by rw [H.out.2, DT.out]; unfold hasL; rw [List.all_cons, hg]; rfl)
        clear hg
        rw [show getV none = .tuple #[.string ⟨#[]⟩, .bool false] from rfl]
        go_wp2_with fail
        go_ret
        exact ⟨by rw [E.out]; rfl, B1.out⟩
      | some v =>
        have E := Lib.hid (show hasL ps (zs.map byteL) = hasL ps ((zs.map byteL).drop (k + 1)) by rw [H.out.2, DT.out]; unfold hasL; rw [List.all_cons, hg]; rfl)
        clear hg
        rw [show getV (some v) = .tuple #[.string (strOfNums v), .bool true] from rfl]
        go_wp2_with fail
        go_roundw
        case rel => exact ⟨k + 1, by omega, by go_num, Lib.hid ⟨B1.out, E.out⟩⟩
        case measure => simp [intOf]; omega
    · obtain rfl : k = n2 := by omega
      have E := Lib.hid (show hasL ps (zs.map byteL) = true by rw [H.out.2, List.drop_of_length_le (by rw [List.length_map, HN2.out]; exact Nat.le_refl _)]; rfl)
      go_wp2_with fail
      go_ret
      exact ⟨by rw [E.out]; rfl, H.out.1⟩
def amongL (zs : List ByteArray) (x : ByteArray) : Bool := (zs.map byteL).contains (byteL x)
set_option maxRecDepth 100000 in
theorem among_any (A2 : Option Addr) (n2 c2 : Nat) (zs : List ByteArray) (x : ByteArray) (w : World) (hA2 : Rds w w.heap.size A2 (zs.map Value.string)) (hn2 : zs.length = n2) (hN2 : n2 ≤ 16000000) :
    Calls Tryd.prog 23 #[.string x, .slice A2 n2 c2] w fun e w' => e = .returned (.bool (amongL zs x)) ∧ w = w' := by
  have HA2 := Lib.hid hA2; have HN2 := Lib.hid hn2
  clear hA2 hn2
  go_enter Tryd.func23, Tryd.ntmps23
  go_wp2_with fail
  go_loop [5] (fun v => ∃ k : Nat, k ≤ n2 ∧ v = .int .i64 k ∧ Hid (amongL zs x = ((zs.map byteL).drop k).contains (byteL x))) (fun v => n2 - (intOf v).toNat)
  case atStart => exact ⟨0, Nat.zero_le _, rfl, Lib.hid rfl⟩
  case round =>
    obtain ⟨k, hk, rfl, H⟩ := hrel
    by_cases hlt : k < n2
    · obtain ⟨z, hz⟩ : ∃ z, zs[k]? = some z := ⟨_, List.getElem?_eq_getElem (by rw [HN2.out]; exact hlt)⟩
      have DT := Lib.hid (show (zs.map byteL).drop k = byteL z :: (zs.map byteL).drop (k + 1) by
        obtain ⟨hl, rfl⟩ := List.getElem?_eq_some_iff.1 hz
        rw [List.drop_eq_getElem_cons (by simpa using hl), List.getElem_map])
      obtain ⟨ab, ao, rfl, hab, hac⟩ := HA2.out (by rw [List.length_map, HN2.out]; omega)
      have c1 : w.cell? ⟨ab, ao + k, none⟩ = some (.string z) := hac k _ (by rw [List.getElem?_map, hz]; rfl)
      have hd : decide (k < n2) = true := by simp [hlt]
      clear hac hab hz
      by_cases he : z = x
      · subst he
        have E := Lib.hid (show amongL zs z = true by rw [H.out, DT.out]; simp)
        go_wp2_with fail
        go_ret
        exact ⟨by rw [E.out]; rfl, rfl⟩
      · have E := Lib.hid (show amongL zs x = ((zs.map byteL).drop (k + 1)).contains (byteL x) by
          rw [H.out, DT.out, List.contains_cons, show (byteL x == byteL z) = false by
            rw [Bool.eq_false_iff]
            intro h
            exact he (byteL_inj (by simpa using h)).symm, Bool.false_or])
        have hb : (z.toList == x.toList) = false := by
          rw [Bool.eq_false_iff]
          intro h
          exact he (toList_inj.1 (by simpa using h))
        clear he
        go_wp2_with fail
        go_round
        case rel => exact ⟨k + 1, by omega, by go_num, Lib.hid E.out⟩
        case measure => simp [intOf]; omega
    · obtain rfl : k = n2 := by omega
      have E := Lib.hid (show amongL zs x = false by rw [H.out, List.drop_of_length_le (by rw [List.length_map, HN2.out]; exact Nat.le_refl _)]; rfl)
      go_wp2_with fail
      go_ret
      exact ⟨by rw [E.out]; rfl, rfl⟩
theorem subL_snoc {xs : List Int} {b i : Nat} (hb : b ≤ i) (hi : i < xs.length) : subL xs b (i + 1) = subL xs b i ++ [xs.getD i 0] := by
  unfold subL
  have h1 : i + 1 - b = (i - b) + 1 := by omega
  have h2 := take_snocI (xs.drop b) (k := i - b) (by rw [List.length_drop]; omega)
  rw [h1, h2]
  congr 2
  rw [List.getD_eq_getElem?_getD, List.getD_eq_getElem?_getD, List.getElem?_drop, show b + (i - b) = i by omega]
theorem glue_cut_hit (p : List Int) (r : List Int) : glue p (cutL 44 (44 :: r)) = p :: cutL 44 r := by rw [cutL_hit, glue, List.append_nil]
theorem subL_none (xs : List Int) (i : Nat) : subL xs i i = [] := by unfold subL; rw [Nat.sub_self, List.take_zero]
def WR (w : World) (X : List Int) (m : Nat) (v3 v4 v5 : Value) (wr : World) : Prop := ∃ (i b : Nat) (x : Value) (zs : List ByteArray) (D : List (List Int)), i ≤ m + 1 ∧ x = v3 ∧ v4 = .int .i64 b ∧ v5 = .int .i64 i ∧ zs.length ≤ i ∧
  Hid (TX w x zs wr ∧ zs.map byteL = D.map trimB ∧ ((i ≤ m ∧ b ≤ i ∧ cutL 44 X = D ++ glue (subL X b i) (cutL 44 (X.drop i))) ∨ (i = m + 1 ∧ cutL 44 X = D)))
def WordsP (xs : List Int) (w : World) (e : Ending) (w' : World) : Prop := ∃ v zs, e = .returned v ∧ TX w v zs w' ∧ zs.map byteL = wordsL xs ∧ zs.length ≤ 4000001
set_option maxRecDepth 100000 in
theorem words_any (s : ByteArray) (w : World) (hs : s.size ≤ 4000000) : Calls Tryd.prog 20 #[.string s] w (WordsP (byteL s) w) := by
  have HB := Lib.hid (byteL_by s)
  have HL := Lib.hid (byteL_len s)
  have OK := Lib.hid (fun (v : Value) (zs : List ByteArray) (w' : World) (h1 : TX w v zs w') (h2 : zs.map byteL = wordsL (byteL s)) (h3 : zs.length ≤ 4000001) => show WordsP (byteL s) w (.returned v) w' from ⟨v, zs, rfl, h1, h2, h3⟩)
  generalize WordsP (byteL s) w = PP at *
  have SUB := Lib.hid (fun (b i : Nat) => subL_extract s b i)
  generalize hX : byteL s = X at *
  have HX := Lib.hid hX
  clear hX
  go_enter Tryd.func20, Tryd.ntmps20
  go_wp2_with fail
  go_loopw [3, 4, 5] (fun v3 v4 v5 wr => WR w X s.size v3 v4 v5 wr) (fun _ _ v _ => s.size + 1 - (intOf v).toNat)
  case atStart => exact ⟨0, 0, _, [], [], Nat.zero_le _, rfl, rfl, rfl, Nat.zero_le _, Lib.hid ⟨VX.nil _ _ _, rfl, .inl ⟨Nat.zero_le _, Nat.le_refl _, by rw [subL_none, List.drop_zero, glue_nil_cut]; rfl⟩⟩⟩
  case round =>
    obtain ⟨i, b, x, zs, D, hi, rfl, rfl, rfl, hz, H⟩ := hrel
    obtain ⟨H1, H2, H3⟩ := H.out
    have T1 := Lib.hid H1; have Z1 := Lib.hid H2
    clear H1 H2 H
    rcases H3 with ⟨him, hbi, hW⟩ | ⟨rfl, hW⟩
    · have HW := Lib.hid hW
      clear hW
      have hd : decide (i ≤ s.size) = true := by simp [him]
      have se : (s.extract b i).size ≤ 4000000 := by rw [ByteArray.size_extract]; omega
      have sb : b ≤ i := hbi
      have TE := Lib.hid (show trimB (byteL (s.extract b i)) = trimB (subL X b i) by rw [SUB.out])
      have TB := Lib.hid (show By (trimB (subL X b i)) from (HB.out.sub ((trimB_sub _).trans (subL_sub X b i))))
      rcases Nat.lt_or_ge i s.size with hlt | hge
      · have he : ((i : Int) == (s.size : Int)) = false := by simp; omega
        have d1 := fun w => idx_str s (i := i) hlt (z := (i : Int)) rfl w
        rw [HX.out] at d1
        have DC := Lib.hid (drop_consI X (k := i) (by rw [HL.out]; exact hlt))
        have SS := Lib.hid (subL_snoc (xs := X) (b := b) (i := i) hbi (by rw [HL.out]; exact hlt))
        generalize X.getD i 0 = c at *
        by_cases hc : c = 44
        · subst hc
          have E := Lib.hid (show cutL 44 X = (D ++ [subL X b i]) ++ glue (subL X (i + 1) (i + 1)) (cutL 44 (X.drop (i + 1))) by
            rw [HW.out, DC.out, glue_cut_hit, subL_none, glue_nil_cut]; simp)
          clear HW DC SS
          go_wp2_with fail
          refine (reftrim_any _ _ se).mono ?_
          rintro e w1 ⟨rfl, hb1⟩
          have T2 := Lib.hid (T1.out.step hb1)
          clear hb1
          rw [TE.out]
          go_wp2_with (with_reducible refine wpList_pushS rfl (.tmp 22) (.tmp 28) rfl x zs rfl T2.out (strOfNums (trimB (subL X b i))) rfl (by omega) ?_)
          intro v3 w3 L3 E3 l3 M3
          go_wp2_with fail
          go_roundw
          case rel => exact ⟨i + 1, i + 1, v3, L3, D ++ [subL X b i], by omega, rfl, by go_num, by go_num, by omega, Lib.hid ⟨M3.out, by rw [E3.out, List.map_append, List.map_append, Z1.out, List.map_cons, List.map_nil, List.map_cons, List.map_nil, byteL_str TB.out], .inl ⟨by omega, Nat.le_refl _, E.out⟩⟩⟩
          case measure => simp [intOf]; omega
        · have hb : (c == 44) = false := by simpa using hc
          have E := Lib.hid (show cutL 44 X = D ++ glue (subL X b (i + 1)) (cutL 44 (X.drop (i + 1))) by
            rw [HW.out, DC.out, cutL_no _ _ _ hc, glue_glue, SS.out])
          clear HW DC SS hc
          go_wp2_with fail
          go_roundw
          case rel => exact ⟨i + 1, b, x, zs, D, by omega, rfl, rfl, by go_num, by omega, Lib.hid ⟨T1.out, Z1.out, .inl ⟨by omega, by omega, E.out⟩⟩⟩
          case measure => simp [intOf]; omega
      · obtain rfl : i = s.size := by omega
        have he : ((s.size : Int) == (s.size : Int)) = true := by simp
        have E := Lib.hid (show cutL 44 X = D ++ [subL X b s.size] by
          rw [HW.out, List.drop_of_length_le (by rw [HL.out]; exact Nat.le_refl _)]
          simp [cutL, glue])
        clear HW
        go_wp2_with fail
        refine (reftrim_any _ _ se).mono ?_
        rintro e w1 ⟨rfl, hb1⟩
        have T2 := Lib.hid (T1.out.step hb1)
        clear hb1
        rw [TE.out]
        go_wp2_with (with_reducible refine wpList_pushS rfl (.tmp 22) (.tmp 28) rfl x zs rfl T2.out (strOfNums (trimB (subL X b s.size))) rfl (by omega) ?_)
        intro v3 w3 L3 E3 l3 M3
        go_wp2_with fail
        go_roundw
        case rel => exact ⟨s.size + 1, s.size + 1, v3, L3, D ++ [subL X b s.size], Nat.le_refl _, rfl, by go_num, by go_num, by omega, Lib.hid ⟨M3.out, by rw [E3.out, List.map_append, List.map_append, Z1.out, List.map_cons, List.map_nil, List.map_cons, List.map_nil, byteL_str TB.out], .inr ⟨rfl, E.out⟩⟩⟩
        case measure => simp [intOf]
    · have HW := Lib.hid hW
      clear hW
      have hd : decide (s.size + 1 ≤ s.size) = false := decide_eq_false (by omega)
      have hd2 : decide ((s.size : Int) + 1 ≤ (s.size : Int)) = false := decide_eq_false (by omega)
      go_wp2_with fail
      first | exact OK.out _ zs _ T1.out (by rw [Z1.out]; unfold wordsL; rw [HW.out]) (by omega) | (go_ret; exact OK.out _ zs _ T1.out (by rw [Z1.out]; unfold wordsL; rw [HW.out]) (by omega))
end Go.Proofs.YtfhbpgickkibmaaDoor
