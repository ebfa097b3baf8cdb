/- Contracts: auth.readField. Contracts: the reference 02's find and Get. Contract: the reference 07's field. -/
import Derived.Test.YtfhbpgickkibmaaGreatDoorCj
import Derived.Test.YtfhbpgickkibmaaGreatDoorCl
import Derived.Test.YtfhbpgickkibmaaGreatDoorMd
namespace Go.Proofs.YtfhbpgickkibmaaGreatDoor
open Go.RowKit

theorem fldL_eq {xs : List Int} {e1 a a2 : Nat} (he : skipTo isTok xs 0 = e1) (ha : skipTo isBlank xs e1 = a) (ha2 : skipTo isBlank xs (a + 1) = a2) :
    fldL xs = if e1 = 0 ∨ a = xs.length ∨ xs.getD a 0 ≠ 61 then none else
      if a2 < xs.length ∧ xs.getD a2 0 = 34 then (if (unq xs (a2 : Nat)).2.2 ≠ 0 ∨ (unq xs (a2 : Nat)).2.1 ≠ xs.length then none else some (lowS (xs.take e1), (unq xs (a2 : Nat)).1))
      else if isToken (xs.drop a2) = true then some (lowS (xs.take e1), xs.drop a2) else none := by
  subst he; subst ha; subst ha2; rfl
def fldV : Option (List Int × List Int) → Value
  | none => .tuple #[.string ⟨#[]⟩, .string ⟨#[]⟩, .bool false]
  | some (n, v) => .tuple #[.string (strOfNums n), .string (strOfNums v), .bool true]
theorem fldV_no {o : Option (List Int × List Int)} (h : o = none) : fldV o = .tuple #[.string ⟨#[]⟩, .string ⟨#[]⟩, .bool false] := by rw [h]; rfl
theorem fldV_ok {o : Option (List Int × List Int)} {n v : List Int} (h : o = some (n, v)) : fldV o = .tuple #[.string (strOfNums n), .string (strOfNums v), .bool true] := by rw [h]; rfl
theorem token_drop {xs : List Int} {a : Nat} (h : a < xs.length) (h2 : xs.getD a 0 = 34) : isToken (xs.drop a) = false := by
  refine token_quote ?_
  rw [drop_consI xs h, h2]; rfl
theorem token_nil : isToken [] = false := rfl
theorem unq_bare {xs : List Int} {a : Nat} (ha : a ≤ xs.length) (h : ¬ (a < xs.length ∧ xs.getD a 0 = 34)) : unq xs (a : Nat) = ([], a, 5) := by
  rcases Nat.lt_or_ge a xs.length with h1 | h1
  · exact unq_not h1 (fun e => h ⟨h1, e⟩)
  · exact unq_end (by omega)
theorem take_extract (s : ByteArray) (k : Nat) : byteL (s.extract 0 k) = (byteL s).take k := by rw [byteL_extract, List.drop_zero, Nat.sub_zero]
theorem drop_extract (s : ByteArray) (k : Nat) : byteL (s.extract k s.size) = (byteL s).drop k := by
  rw [byteL_extract, List.take_of_length_le (by rw [List.length_drop, byteL_len]; exact Nat.le_refl _)]
theorem str_extract (s : ByteArray) (k : Nat) : s.extract k s.size = strOfNums ((byteL s).drop k) := by rw [← drop_extract, str_byteL]
theorem clipN {k n : Nat} (h : k ≤ n) : clip (k : Int) n = k := by unfold clip; omega
theorem clip0 (n : Nat) : clip 0 n = 0 := by simp [clip]
theorem tokend0 (s : ByteArray) (w : World) (k : Nat) (hk : skipTo isTok (byteL s) 0 = k) (hs : s.size ≤ 4000000) :
    Calls Tryz.prog 105 #[.string s, .int .i64 0] w fun e w' => e = .returned (.int .i64 (k : Nat)) ∧ Below w.heap.size w w' := by
  subst hk
  have h := tokend_any s 0 w (by omega) (by omega)
  rw [clip0] at h
  exact h
theorem blanksN (s : ByteArray) (z : Int) (n : Nat) (w : World) (k : Nat) (hz : z = n) (hn : n ≤ s.size) (hk : skipTo isBlank (byteL s) n = k) (hs : s.size ≤ 4000000) :
    Calls Tryz.prog 74 #[.string s, .int .i64 z] w fun e w' => e = .returned (.int .i64 (k : Nat)) ∧ Below w.heap.size w w' := by
  subst hk; subst hz
  have h := blanks_any s n w (by omega) (by omega)
  rw [clipN hn] at h
  exact h
theorem reftokend0 (s : ByteArray) (w : World) (k : Nat) (hk : skipTo isTok (byteL s) 0 = k) (hs : s.size ≤ 4000000) :
    Calls Tryz.prog 110 #[.string s, .int .i64 0] w fun e w' => e = .returned (.int .i64 (k : Nat)) ∧ Below w.heap.size w w' := by
  subst hk
  have h := reftokend_any s 0 w (by omega) (by omega)
  rw [clip0] at h
  exact h
theorem refblanksN (s : ByteArray) (z : Int) (n : Nat) (w : World) (k : Nat) (hz : z = n) (hn : n ≤ s.size) (hk : skipTo isBlank (byteL s) n = k) (hs : s.size ≤ 4000000) :
    Calls Tryz.prog 107 #[.string s, .int .i64 z] w fun e w' => e = .returned (.int .i64 (k : Nat)) ∧ Below w.heap.size w w' := by
  subst hk; subst hz
  have h := refblanks_any s n w (by omega) (by omega)
  rw [clipN hn] at h
  exact h
set_option maxRecDepth 100000 in
set_option maxHeartbeats 400000 in
theorem readField_any (s : ByteArray) (w : World) (hs : s.size ≤ 4000000) :
    Calls Tryz.prog 77 #[.string s] w fun e w' => e = .returned (fldV (fldL (byteL s))) ∧ Below w.heap.size w w' := by
  have HL := Lib.hid (byteL_len s)
  have HB := Lib.hid (byteL_by s)
  have VN := Lib.hid (fun h => fldV_no (o := fldL (byteL s)) h)
  have VY := Lib.hid (fun n v h => fldV_ok (o := fldL (byteL s)) (n := n) (v := v) h)
  obtain ⟨e1, he1⟩ : ∃ k, skipTo isTok (byteL s) 0 = k := ⟨_, rfl⟩
  obtain ⟨a, ha⟩ : ∃ k, skipTo isBlank (byteL s) e1 = k := ⟨_, rfl⟩
  obtain ⟨a2, ha2⟩ : ∃ k, skipTo isBlank (byteL s) (a + 1) = k := ⟨_, rfl⟩
  have FE := Lib.hid (fldL_eq he1 ha ha2)
  have e1s : e1 ≤ s.size := by rw [← he1, ← byteL_len s]; exact skip_le (Nat.zero_le _)
  have asz : a ≤ s.size := by rw [← ha, ← byteL_len s]; exact skip_le (by rw [byteL_len]; exact e1s)
  have A2S := Lib.hid (show a < s.size → a2 ≤ s.size from fun h => by rw [← ha2, ← byteL_len s]; exact skip_le (by rw [byteL_len]; omega))
  have HE := Lib.hid he1; have HA := Lib.hid ha; have HA2 := Lib.hid ha2
  clear he1 ha ha2
  generalize fldV (fldL (byteL s)) = FV at *
  have IDX := Lib.hid (fun (i : Nat) (h : i < s.size) (w : World) => idx_str s (i := i) h (z := (i : Int)) rfl w)
  have XT := Lib.hid (take_extract s e1)
  have XD := Lib.hid (drop_extract s a2)
  have XS := Lib.hid (str_extract s a2)
  generalize hX : byteL s = X at *
  have HX := Lib.hid hX
  clear hX
  go_enter Tryz.func77, Tryz.ntmps77
  go_wp2_with fail
  refine (tokend0 s _ e1 (by rw [HX.out]; exact HE.out) hs).mono ?_
  rintro e w1 ⟨rfl, hb1⟩
  have B1 := Lib.hid hb1; clear hb1
  go_wp2_with fail
  refine (blanksN s _ e1 _ a rfl e1s (by rw [HX.out]; exact HA.out) hs).mono ?_
  rintro e w2 ⟨rfl, hb2⟩
  have B2 := Lib.hid (bthen B1.out hb2); clear hb2 B1
  by_cases h0 : e1 = 0
  · have hb : ((e1 : Int) == 0) = true := by simp [h0]
    have NO := Lib.hid (VN.out (FE.out.trans (if_pos (.inl h0))))
    clear h0
    go_wp2_with fail
    go_ret3
    exact ⟨by rw [NO.out]; rfl, B2.out⟩
  · have hb : ((e1 : Int) == 0) = false := by simp; omega
    by_cases h1 : a = s.size
    · have hb1 : ((a : Int) == (s.size : Int)) = true := by simp; omega
      have NO := Lib.hid (VN.out (FE.out.trans (if_pos (.inr (.inl (by rw [HL.out]; exact h1))))))
      clear h0 h1
      go_wp2_with fail
      go_ret3
      exact ⟨by rw [NO.out]; rfl, B2.out⟩
    · have hb1 : ((a : Int) == (s.size : Int)) = false := by simp; omega
      have hal : a < s.size := by omega
      have d1 := IDX.out a hal
      by_cases h2 : X.getD a 0 = 61
      · have hb2 : (X.getD a 0 != 61) = false := by simp only [bne_eq_false_iff_eq]; exact h2
        have FE1 := Lib.hid (FE.out.trans (if_neg (by rw [HL.out]; rintro (h | h | h) <;> contradiction)))
        have a2s := A2S.out hal
        clear h0 h1 h2 FE
        generalize X.getD a 0 = q at *
        go_wp2_with fail
        clear d1 hb hb1 hb2
        refine (lower_any _ _ (by rw [ByteArray.size_extract]; omega)).mono ?_
        rintro e w3 ⟨rfl, hb3⟩
        have B3 := Lib.hid (bthen B2.out hb3); clear hb3 B2
        rw [XT.out]
        go_wp2_with fail
        refine (blanksN s _ (a + 1) _ a2 (by push_cast; rfl) (by omega) (by rw [HX.out]; exact HA2.out) hs).mono ?_
        rintro e w4 ⟨rfl, hb4⟩
        have B4 := Lib.hid (bthen B3.out hb4); clear hb4 B3
        go_wp2_with fail
        refine (lexToken_any _ _ (by rw [ByteArray.size_extract]; omega)).mono ?_
        rintro e w5 ⟨rfl, hb5⟩
        have B5 := Lib.hid (bthen B4.out hb5); clear hb5 B4
        rw [XD.out]
        cases ht : isToken (X.drop a2) with
        | true =>
          have hq : ¬ (a2 < X.length ∧ X.getD a2 0 = 34) := fun ⟨h1, h2⟩ => by rw [token_drop h1 h2] at ht; cases ht
          have YES := Lib.hid (VY.out _ _ (FE1.out.trans ((if_neg hq).trans (if_pos ht))))
          clear ht hq
          have i1 : (0 : Int) ≤ (a2 : Int) := by omega
          have i2 : (a2 : Int) ≤ (s.size : Int) := by omega
          go_wp2_with fail
          go_quiet (fail)
          go_wp2_with fail
          go_ret3
          exact ⟨by rw [YES.out, ← XS.out]; rfl, bthen B5.out (below_drewN _ _)⟩
        | false =>
          have TF := Lib.hid ht
          clear ht
          go_wp2_with fail
          refine (unquote_b s a2 (unq X a2) _ (by rw [HX.out]) a2s hs).mono ?_
          rintro e w6 ⟨rfl, hb6⟩
          have B6 := Lib.hid (bthen B5.out hb6); clear hb6 B5
          by_cases hq : a2 < X.length ∧ X.getD a2 0 = 34
          · have FE2 := Lib.hid (FE1.out.trans (if_pos hq))
            clear hq FE1
            generalize unq X a2 = U at *
            obtain ⟨u1, u2, u3⟩ := U
            have FE3 := Lib.hid (show fldL X = if u3 ≠ 0 ∨ u2 ≠ X.length then none else some (lowS (X.take e1), u1) from FE2.out)
            clear FE2
            by_cases hu : u3 = 0
            · subst hu
              by_cases hv : u2 = s.size
              · have hb : ((u2 : Int) != (s.size : Int)) = false := by simp only [bne_eq_false_iff_eq]; omega
                have YES := Lib.hid (VY.out _ _ (FE3.out.trans (if_neg (by rw [HL.out]; rintro (h | h) <;> contradiction))))
                clear hv
                go_wp2_with fail
                go_ret3
                exact ⟨by rw [YES.out]; rfl, B6.out⟩
              · have hb : ((u2 : Int) != (s.size : Int)) = true := by simp only [bne_iff_ne]; omega
                have NO := Lib.hid (VN.out (FE3.out.trans (if_pos (.inr (by rw [HL.out]; exact hv)))))
                clear hv
                go_wp2_with fail
                go_ret3
                exact ⟨by rw [NO.out]; rfl, B6.out⟩
            · have hb : (u3 != 0) = true := by simp only [bne_iff_ne]; exact hu
              have NO := Lib.hid (VN.out (FE3.out.trans (if_pos (.inl hu))))
              clear hu
              go_wp2_with fail
              go_ret3
              exact ⟨by rw [NO.out]; rfl, B6.out⟩
          · have NO := Lib.hid (VN.out (FE1.out.trans ((if_neg hq).trans (if_neg (by rw [TF.out]; decide)))))
            rw [unq_bare (by rw [HL.out]; exact a2s) hq]
            clear hq
            go_wp2_with fail
            go_ret3
            exact ⟨by rw [NO.out]; rfl, B6.out⟩
      · have hb2 : (X.getD a 0 != 61) = true := by simp only [bne_iff_ne]; exact h2
        have NO := Lib.hid (VN.out (FE.out.trans (if_pos (.inr (.inr h2)))))
        clear h0 h1 h2
        generalize X.getD a 0 = q at *
        go_wp2_with fail
        go_ret3
        exact ⟨by rw [NO.out]; rfl, B2.out⟩
end Go.Proofs.YtfhbpgickkibmaaGreatDoor
namespace Go.Proofs.YtfhbpgickkibmaaGreatDoor
open Go.RowKit

/-- A slice that reads as these cells. -/
def Rds (w : World) (B : Nat) (A : Option Addr) (cs : List Value) : Prop := 0 < cs.length → ∃ b o, A = some ⟨b, o, none⟩ ∧ b < B ∧ ∀ j u, cs[j]? = some u → w.cell? ⟨b, o + j, none⟩ = some u
theorem Rds.keep {w w' : World} {B : Nat} {A : Option Addr} {cs : List Value} (h : Rds w B A cs) (hk : ∀ p : Addr, p.block < B → w'.cell? p = w.cell? p) : Rds w' B A cs := fun hn => by
  obtain ⟨b, o, e, hb, hc⟩ := h hn
  exact ⟨b, o, e, hb, fun j u hu => (hk ⟨b, o + j, none⟩ hb).trans (hc j u hu)⟩
theorem Rds.below {w w' : World} {B : Nat} {A : Option Addr} {cs : List Value} (h : Rds w B A cs) (hb : Below B w w') : Rds w' B A cs := h.keep fun _ hp => hb.cell hp
theorem Rds.up {w : World} {B B' : Nat} {A : Option Addr} {cs : List Value} (h : Rds w B A cs) (hB : B ≤ B') : Rds w B' A cs := fun hn => by
  obtain ⟨b, o, e, hb, hc⟩ := h hn
  exact ⟨b, o, e, Nat.lt_of_lt_of_le hb hB, hc⟩
def prmBy (p : Prm) : Prop := By p.n ∧ By p.v ∧ p.n.length ≤ 4000000 ∧ p.v.length ≤ 4000000
def findP (ps : List Prm) (nm : List Int) : Option Nat := ps.findIdx? fun p => lowS p.n == lowS nm
def findV : Option Nat → Int
  | none => -1
  | some i => i
theorem prms_at {ps : List Prm} {k : Nat} {p : Prm} (h : ps[k]? = some p) : (prms ps)[k * 3]? = some (.string (strOfNums p.n)) ∧ (prms ps)[k * 3 + 1]? = some (.string (strOfNums p.v)) ∧ (prms ps)[k * 3 + 2]? = some (.bool p.h) :=
  ⟨flat_at prmC 3 (fun _ => rfl) ps k 0 p h (by omega), flat_at prmC 3 (fun _ => rfl) ps k 1 p h (by omega), flat_at prmC 3 (fun _ => rfl) ps k 2 p h (by omega)⟩
theorem toList_beq {a b : List Int} (ha : By a) (hb : By b) : ((strOfNums a).toList == (strOfNums b).toList) = (a == b) := by
  rw [Bool.eq_iff_iff, beq_iff_eq, beq_iff_eq, toList_inj, num_inj ha hb]
theorem find_spec (ps : List Prm) (nm : List Int) : (findP ps nm = none ∧ ps.find? (fun p => lowS p.n == lowS nm) = none) ∨ ∃ i p, findP ps nm = some i ∧ ps[i]? = some p ∧ ps.find? (fun p => lowS p.n == lowS nm) = some p := by
  induction ps with
  | nil => exact .inl ⟨rfl, rfl⟩
  | cons q ps ih =>
    unfold findP at ih ⊢
    rw [List.findIdx?_cons, List.find?_cons]
    cases hq : (lowS q.n == lowS nm) with
    | true => exact .inr ⟨0, q, by simp, rfl, rfl⟩
    | false =>
      rcases ih with ⟨h1, h2⟩ | ⟨i, p, h1, h2, h3⟩
      · exact .inl ⟨by simp [h1], h2⟩
      · exact .inr ⟨i + 1, p, by simp [h1], h2, h3⟩
theorem findP_none {ps : List Prm} {nm : List Int} (h : ∀ (j : Nat) p, j < ps.length → ps[j]? = some p → (lowS p.n == lowS nm) = false) : findP ps nm = none := by
  unfold findP
  rw [List.findIdx?_eq_none_iff]
  intro p hp
  obtain ⟨j, hj, rfl⟩ := List.getElem_of_mem hp
  exact h j _ hj (List.getElem?_eq_getElem hj)
theorem findP_some {ps : List Prm} {nm : List Int} {k : Nat} {p : Prm} (h : ∀ (j : Nat) p, j < k → ps[j]? = some p → (lowS p.n == lowS nm) = false) (hk : ps[k]? = some p) (hp : (lowS p.n == lowS nm) = true) : findP ps nm = some k := by
  unfold findP
  obtain ⟨hl, rfl⟩ := List.getElem?_eq_some_iff.1 hk
  rw [List.findIdx?_eq_some_iff_getElem]
  exact ⟨hl, hp, fun j hj => by rw [h j _ hj (List.getElem?_eq_getElem (by omega))]; decide⟩
theorem num_size (l : List Int) : (strOfNums l).size = l.length := strOfNums_size l
set_option maxRecDepth 100000 in
theorem find_any (A : Option Addr) (n c : Nat) (ps : List Prm) (nm : ByteArray) (w : World) (hA : Rds w w.heap.size A (prms ps)) (hn : ps.length = n) (hP : ∀ p ∈ ps, prmBy p) (hN : n ≤ 16000000) (hs : nm.size ≤ 4000000) :
    Calls Tryz.prog 112 #[.slice A n c, .string nm] w fun e w' => e = .returned (.int .i64 (findV (findP ps (byteL nm)))) ∧ Below w.heap.size w w' := by
  have HA := Lib.hid hA; have HN := Lib.hid hn; have HP := Lib.hid hP
  clear hA hn hP
  go_enter Tryz.func112, Tryz.ntmps112
  go_wp2_with fail
  go_loopw [5] (fun v wr => ∃ k : Nat, k ≤ n ∧ v = .int .i64 k ∧ Hid (Below w.heap.size w wr ∧ ∀ (j : Nat) p, j < k → ps[j]? = some p → (lowS p.n == lowS (byteL nm)) = false)) (fun v _ => n - (intOf v).toNat)
  case atStart => exact ⟨0, Nat.zero_le _, rfl, Lib.hid ⟨Below.refl _ _, fun j p hj => absurd hj (by omega)⟩⟩
  case round =>
    obtain ⟨k, hk, rfl, H⟩ := hrel
    by_cases hlt : k < n
    · obtain ⟨p, hp⟩ : ∃ p, ps[k]? = some p := ⟨_, List.getElem?_eq_getElem (by rw [HN.out]; exact hlt)⟩
      obtain ⟨ab, ao, rfl, hab, hac⟩ := HA.out (by rw [prms_len, HN.out]; omega)
      have hpb := HP.out p (List.mem_of_getElem? hp)
      have hcell : wr.cell? ⟨ab, ao + k * 3, none⟩ = some (.string (strOfNums p.n)) := (H.out.1.cell (p := ⟨ab, ao + k * 3, none⟩) hab).trans (hac _ _ (prms_at hp).1)
      have hd : decide (k < n) = true := by simp; omega
      clear hac hab
      go_wp2_with fail
      refine (reflower_any (strOfNums p.n) _ (by rw [num_size]; exact hpb.2.2.1)).mono ?_
      rintro e w1 ⟨rfl, hb1⟩
      have B1 := Lib.hid (bthen H.out.1 hb1); clear hb1
      rw [byteL_str hpb.1]
      go_wp2_with fail
      refine (reflower_any nm _ hs).mono ?_
      rintro e w2 ⟨rfl, hb2⟩
      have B2 := Lib.hid (bthen B1.out hb2); clear hb2 B1
      have BX := lowS_by hpb.1
      have BY := lowS_by (byteL_by nm)
      have TB := toList_beq BX BY
      have F1 := Lib.hid (fun h => findP_some (nm := byteL nm) (k := k) (p := p) (fun j p hj hpj => H.out.2 j p hj hpj) hp h)
      have NX := Lib.hid (show (lowS p.n == lowS (byteL nm)) = false → ∀ (j : Nat) q, j < k + 1 → ps[j]? = some q → (lowS q.n == lowS (byteL nm)) = false from fun h j q hj hq => by
        rcases (show j < k ∨ j = k by omega) with h1 | rfl
        · exact H.out.2 j q h1 hq
        · rw [hp] at hq
          cases hq
          exact h)
      clear BX BY hpb hp
      generalize hx : lowS p.n = x at TB F1 NX
      generalize hy : lowS (byteL nm) = y at TB F1
      have HY := Lib.hid hy
      clear hx hy
      cases he : (x == y) with
      | true =>
        rw [he] at TB
        have F2 := Lib.hid (F1.out he)
        clear he
        go_wp2_with fail
        go_ret
        exact ⟨by rw [F2.out]; rfl, B2.out⟩
      | false =>
        rw [he] at TB
        have N2 := Lib.hid (NX.out (by rw [HY.out]; exact he))
        clear he
        go_wp2_with fail
        go_roundw
        case rel => exact ⟨k + 1, by omega, by go_num, Lib.hid ⟨B2.out, N2.out⟩⟩
        case measure => simp [intOf]; omega
    · obtain rfl : k = n := by omega
      have F2 := Lib.hid (findP_none (ps := ps) (nm := byteL nm) (fun j p hj hp => H.out.2 j p (by rw [HN.out] at hj; exact hj) hp))
      go_wp2_with fail
      go_ret
      exact ⟨by rw [F2.out]; rfl, H.out.1⟩
def getP (ps : List Prm) (nm : List Int) : Option (List Int) := (ps.find? fun p => lowS p.n == lowS nm).map (·.v)
def getV : Option (List Int) → Value
  | none => .tuple #[.string ⟨#[]⟩, .bool false]
  | some v => .tuple #[.string (strOfNums v), .bool true]
set_option maxRecDepth 100000 in
theorem get_any (A : Option Addr) (n c : Nat) (ps : List Prm) (nm : ByteArray) (w : World) (hA : Rds w w.heap.size A (prms ps)) (hn : ps.length = n) (hP : ∀ p ∈ ps, prmBy p) (hN : n ≤ 16000000) (hs : nm.size ≤ 4000000) :
    Calls Tryz.prog 83 #[.slice A n c, .string nm] w fun e w' => e = .returned (getV (getP ps (byteL nm))) ∧ Below w.heap.size w w' := by
  have HA := Lib.hid hA; have HN := Lib.hid hn; have HP := Lib.hid hP
  clear hA hn hP
  go_enter Tryz.func83, Tryz.ntmps83
  go_wp2_with fail
  refine (find_any A n c ps nm _ HA.out HN.out HP.out hN hs).mono ?_
  rintro e w1 ⟨rfl, hb1⟩
  have B1 := Lib.hid hb1
  have GE := Lib.hid (show getP ps (byteL nm) = (ps.find? fun p => lowS p.n == lowS (byteL nm)).map (·.v) from rfl)
  rcases find_spec ps (byteL nm) with ⟨h1, h2⟩ | ⟨i, p, h1, h2, h3⟩
  · rw [h1, show findV none = -1 from rfl]
    have G1 := Lib.hid (show getP ps (byteL nm) = none by rw [GE.out, h2]; rfl)
    clear h1 h2 hb1
    go_wp2_with fail
    go_ret2
    exact ⟨by rw [G1.out]; rfl, B1.out⟩
  · rw [h1, show findV (some i) = (i : Int) from rfl]
    have G1 := Lib.hid (show getP ps (byteL nm) = some p.v by rw [GE.out, h3]; rfl)
    have hi : i < n := by rw [← HN.out]; exact (List.getElem?_eq_some_iff.1 h2).1
    obtain ⟨ab, ao, rfl, hab, hac⟩ := HA.out (by rw [prms_len, HN.out]; omega)
    have hcell : w1.cell? ⟨ab, ao + i * 3 + 1, none⟩ = some (.string (strOfNums p.v)) := (hb1.cell (p := ⟨ab, ao + i * 3 + 1, none⟩) hab).trans (hac _ _ (prms_at h2).2.1)
    clear h1 h2 h3 hb1 hab hac
    go_wp2_with fail
    go_ret2
    exact ⟨by rw [G1.out]; rfl, B1.out⟩
end Go.Proofs.YtfhbpgickkibmaaGreatDoor
namespace Go.Proofs.YtfhbpgickkibmaaGreatDoor
open Go.RowKit

theorem size3 : (Tryz.prog.info? 140).map (·.size) = some 3 := by kernel_rfl
abbrev Z3 : List Value := [.string ⟨#[]⟩, .string ⟨#[]⟩, .bool false]
theorem sizeL3 (a b c : Value) : (Tryz.prog.info? 140).map (·.size) = some [a, b, c].length := size3
theorem lenL3 (a b c d e f : Value) : [a, b, c].length = [d, e, f].length := rfl
theorem z3_one : ∀ u ∈ Z3, u.oneCell' = true := fun u hu => by
  simp [Z3] at hu
  rcases hu with rfl | rfl <;> rfl
theorem p3_one (a b : ByteArray) (h : Bool) : ∀ u ∈ [Value.string a, .string b, .bool h], u.oneCell' = true := fun u hu => by
  simp at hu
  rcases hu with rfl | rfl | rfl <;> rfl
def rfldV : Option (List Int × List Int) → Value
  | none => .tuple #[.agg #[.string ⟨#[]⟩, .string ⟨#[]⟩, .bool false], .int .u8 5]
  | some (n, v) => .tuple #[.agg #[.string (strOfNums n), .string (strOfNums v), .bool true], .int .u8 0]
theorem rfldV_no {o : Option (List Int × List Int)} (h : o = none) : rfldV o = .tuple #[.agg #[.string ⟨#[]⟩, .string ⟨#[]⟩, .bool false], .int .u8 5] := by rw [h]; rfl
theorem rfldV_ok {o : Option (List Int × List Int)} {n v : List Int} (h : o = some (n, v)) : rfldV o = .tuple #[.agg #[.string (strOfNums n), .string (strOfNums v), .bool true], .int .u8 0] := by rw [h]; rfl
set_option maxRecDepth 100000 in
set_option maxHeartbeats 1000000 in
theorem reffield_any (s : ByteArray) (w : World) (hs : s.size ≤ 4000000) :
    Calls Tryz.prog 82 #[.string s] w fun e w' => e = .returned (rfldV (fldL (byteL s))) ∧ Below w.heap.size w w' := by
  have HL := Lib.hid (byteL_len s)
  have VN := Lib.hid (fun h => rfldV_no (o := fldL (byteL s)) h)
  have VY := Lib.hid (fun n v h => rfldV_ok (o := fldL (byteL s)) (n := n) (v := v) h)
  obtain ⟨e1, he1⟩ : ∃ k, skipTo isTok (byteL s) 0 = k := ⟨_, rfl⟩
  obtain ⟨a, ha⟩ : ∃ k, skipTo isBlank (byteL s) e1 = k := ⟨_, rfl⟩
  obtain ⟨a2, ha2⟩ : ∃ k, skipTo isBlank (byteL s) (a + 1) = k := ⟨_, rfl⟩
  have FE := Lib.hid (fldL_eq he1 ha ha2)
  have e1s : e1 ≤ s.size := by rw [← he1, ← byteL_len s]; exact skip_le (Nat.zero_le _)
  have asz : a ≤ s.size := by rw [← ha, ← byteL_len s]; exact skip_le (by rw [byteL_len]; exact e1s)
  have A2S := Lib.hid (show a < s.size → a2 ≤ s.size from fun h => by rw [← ha2, ← byteL_len s]; exact skip_le (by rw [byteL_len]; omega))
  have HE := Lib.hid he1; have HA := Lib.hid ha; have HA2 := Lib.hid ha2
  clear he1 ha ha2
  generalize rfldV (fldL (byteL s)) = FV at *
  have IDX := Lib.hid (fun (i : Nat) (h : i < s.size) (w : World) => idx_str s (i := i) h (z := (i : Int)) rfl w)
  have XT := Lib.hid (take_extract s e1)
  have XD := Lib.hid (drop_extract s a2)
  have XS := Lib.hid (str_extract s a2)
  generalize hX : byteL s = X at *
  have HX := Lib.hid hX
  clear hX
  have R0 := Lib.hid (Row.new w 140 Z3)
  have B0 := Lib.hid ((Below.refl w.heap.size w).alloc (Nat.le_refl _) (.cells Z3.toArray 140))
  go_enter Tryz.func82, Tryz.ntmps82
  go_wp2_with fail
  refine (reftokend0 s _ e1 (by rw [HX.out]; exact HE.out) hs).mono ?_
  rintro e w1 ⟨rfl, hb1⟩
  have R1 := Lib.hid (R0.out.below hb1)
  have B1 := Lib.hid (bthen B0.out hb1); clear hb1 R0 B0
  go_wp2_with fail
  refine (refblanksN s _ e1 _ a rfl e1s (by rw [HX.out]; exact HA.out) hs).mono ?_
  rintro e w2 ⟨rfl, hb2⟩
  have R2 := Lib.hid (R1.out.below hb2)
  have B2 := Lib.hid (bthen B1.out hb2); clear hb2 B1 R1
  by_cases h0 : e1 = 0
  · have hb : ((e1 : Int) == 0) = true := by simp [h0]
    have NO := Lib.hid (VN.out (FE.out.trans (if_pos (.inl h0))))
    clear h0
    go_wp2_with (with_reducible refine wpList_storeR rfl 140 (.tmp 2) (.tmp 29) rfl R2.out Z3 rfl rfl (lenL3 _ _ _ _ _ _) (sizeL3 _ _ _) z3_one B2.out (Nat.le_refl _) ?_)
    intro w3 R3 B3 _
    go_wp2_with fail
    exact bodyPost_ret (results_ct rfl _ _ _ w.heap.size Z3 _ rfl R3.out.range Tryz.underlying140 rfl size3) rfl ⟨by rw [NO.out]; rfl, B3.out⟩
  · have hb : ((e1 : Int) == 0) = false := by simp; omega
    by_cases h1 : a = s.size
    · have hb1 : ((a : Int) == (s.size : Int)) = true := by simp; omega
      have NO := Lib.hid (VN.out (FE.out.trans (if_pos (.inr (.inl (by rw [HL.out]; exact h1))))))
      clear h0 h1
      go_wp2_with (with_reducible refine wpList_storeR rfl 140 (.tmp 2) (.tmp 29) rfl R2.out Z3 rfl rfl (lenL3 _ _ _ _ _ _) (sizeL3 _ _ _) z3_one B2.out (Nat.le_refl _) ?_)
      intro w3 R3 B3 _
      go_wp2_with fail
      exact bodyPost_ret (results_ct rfl _ _ _ w.heap.size Z3 _ rfl R3.out.range Tryz.underlying140 rfl size3) rfl ⟨by rw [NO.out]; rfl, B3.out⟩
    · have hb1 : ((a : Int) == (s.size : Int)) = false := by simp; omega
      have hal : a < s.size := by omega
      have d1 := IDX.out a hal
      by_cases h2 : X.getD a 0 = 61
      · have hb2 : (X.getD a 0 != 61) = false := by simp only [bne_eq_false_iff_eq]; exact h2
        have FE1 := Lib.hid (FE.out.trans (if_neg (by rw [HL.out]; rintro (h | h | h) <;> contradiction)))
        have a2s := A2S.out hal
        clear h0 h1 h2 FE
        generalize X.getD a 0 = q at *
        go_wp2_with fail
        clear d1 hb hb1 hb2
        refine (refblanksN s _ (a + 1) _ a2 (by push_cast; rfl) (by omega) (by rw [HX.out]; exact HA2.out) hs).mono ?_
        rintro e w4 ⟨rfl, hb4⟩
        have R4 := Lib.hid (R2.out.below hb4)
        have B4 := Lib.hid (bthen B2.out hb4); clear hb4 B2 R2
        go_wp2_with fail
        refine (reflower_any _ _ (by rw [ByteArray.size_extract]; omega)).mono ?_
        rintro e w3 ⟨rfl, hb3⟩
        have R3 := Lib.hid (R4.out.below hb3)
        have B3 := Lib.hid (bthen B4.out hb3); clear hb3 B4 R4
        rw [XT.out]
        generalize hNM : strOfNums (lowS (X.take e1)) = NM at *
        have HNM := Lib.hid hNM
        clear hNM
        have RB0 := Lib.hid (Row.new w3 140 Z3)
        have RA := Lib.hid (R3.out.alloc (.cells Z3.toArray 140))
        have BA := Lib.hid (B3.out.alloc B3.out.size (.cells Z3.toArray 140))
        have NE := Lib.hid (show w.heap.size ≠ w3.heap.size by have := R3.out.lt; omega)
        have B3S := Lib.hid B3.out.size
        go_wp2_with (with_reducible refine wpList_storeR rfl 140 (.tmp 6) (.tmp 38) rfl RB0.out [.string NM, .string ⟨#[]⟩, .bool true] rfl rfl (lenL3 _ _ _ _ _ _) (sizeL3 _ _ _) (p3_one _ _ _) BA.out B3.out.size ?_)
        intro w5 R5 B5 K5
        have RA5 := Lib.hid (RA.out.heap (K5.out.2 _ NE.out))
        clear R3 B3 RB0 RA BA
        clear K5
        by_cases hq : a2 < X.length ∧ X.getD a2 0 = 34
        · have hql : a2 < s.size := by rw [← HL.out]; exact hq.1
          have hd : decide (a2 < s.size) = true := by simp [hql]
          have d2 := IDX.out a2 hql
          rw [hq.2] at d2
          have FE2 := Lib.hid (FE1.out.trans (if_pos hq))
          clear hq FE1
          go_wp2_with fail
          clear d2 hd
          refine (refunquote_b s a2 (unq X a2) _ (by rw [HX.out]) a2s hs).mono ?_
          rintro e w6 ⟨rfl, hb6⟩
          have R6 := Lib.hid (R5.out.below hb6)
          have RA6 := Lib.hid (RA5.out.below hb6)
          have B6 := Lib.hid (bthen B5.out hb6); clear hb6 B5 R5 RA5
          generalize unq X a2 = U at *
          obtain ⟨u1, u2, u3⟩ := U
          have FE3 := Lib.hid (show fldL X = if u3 ≠ 0 ∨ u2 ≠ X.length then none else some (lowS (X.take e1), u1) from FE2.out)
          clear FE2
          by_cases hu : u3 = 0
          · subst hu
            by_cases hv : u2 = s.size
            · have hb : ((u2 : Int) != (s.size : Int)) = false := by simp only [bne_eq_false_iff_eq]; omega
              have YES := Lib.hid (VY.out _ _ (FE3.out.trans (if_neg (by rw [HL.out]; rintro (h | h) <;> contradiction))))
              clear hv
              generalize hUU : strOfNums u1 = UU at *
              have HUU := Lib.hid hUU
              clear hUU
              have c1 : w6.cell? ⟨w3.heap.size, 1, none⟩ = some (.string ⟨#[]⟩) := R6.out.cell 1
              have f1 := R6.out.frozen 1
              have RX7 := Lib.hid (show Row (w6.setCell ⟨w3.heap.size, 1, none⟩ (.string UU)) w3.heap.size 140 [.string NM, .string UU, .bool true] from R6.out.set 1 _)
              have RA7 := Lib.hid (RA6.out.setOther (p := w3.heap.size) (i := 1) NE.out.symm (.string UU))
              have B7 := Lib.hid (B6.out.setCell (p := ⟨w3.heap.size, 1, none⟩) B3S.out (.string UU))
              go_wp2_with (first
                | (with_reducible refine wpList_loadR rfl 140 (.tmp 6) rfl RX7.out rfl Tryz.underlying140 rfl (sizeL3 _ _ _) ?_)
                | (with_reducible refine wpList_storeR rfl 140 (.tmp 2) (.tmp 67) rfl RA7.out [.string NM, .string UU, .bool true] rfl rfl (lenL3 _ _ _ _ _ _) (sizeL3 _ _ _) (p3_one _ _ _) B7.out (Nat.le_refl _) ?_))
              intro w8 R8 B8 _
              go_wp2_with fail
              exact bodyPost_ret (results_ct rfl _ _ _ w.heap.size [.string NM, .string UU, .bool true] _ rfl R8.out.range Tryz.underlying140 rfl size3) rfl ⟨by rw [YES.out, HNM.out]; rfl, B8.out⟩
            · have hb : ((u2 : Int) != (s.size : Int)) = true := by simp only [bne_iff_ne]; omega
              have NO := Lib.hid (VN.out (FE3.out.trans (if_pos (.inr (by rw [HL.out]; exact hv)))))
              clear hv
              go_wp2_with (with_reducible refine wpList_storeR rfl 140 (.tmp 2) (.tmp 64) rfl RA6.out Z3 rfl rfl (lenL3 _ _ _ _ _ _) (sizeL3 _ _ _) z3_one B6.out (Nat.le_refl _) ?_)
              intro w7 R7 B7 _
              go_wp2_with fail
              exact bodyPost_ret (results_ct rfl _ _ _ w.heap.size Z3 _ rfl R7.out.range Tryz.underlying140 rfl size3) rfl ⟨by rw [NO.out]; rfl, B7.out⟩
          · have hb : (u3 != 0) = true := by simp only [bne_iff_ne]; exact hu
            have NO := Lib.hid (VN.out (FE3.out.trans (if_pos (.inl hu))))
            clear hu
            go_wp2_with (with_reducible refine wpList_storeR rfl 140 (.tmp 2) (.tmp 64) rfl RA6.out Z3 rfl rfl (lenL3 _ _ _ _ _ _) (sizeL3 _ _ _) z3_one B6.out (Nat.le_refl _) ?_)
            intro w7 R7 B7 _
            go_wp2_with fail
            exact bodyPost_ret (results_ct rfl _ _ _ w.heap.size Z3 _ rfl R7.out.range Tryz.underlying140 rfl size3) rfl ⟨by rw [NO.out]; rfl, B7.out⟩
        · have hd : decide (a2 < s.size) = true ∨ decide (a2 < s.size) = false := by cases decide (a2 < s.size) <;> simp
          have hdq : ∀ (h : a2 < s.size), ((X.getD a2 0) == 34) = false := fun h => by
            cases hb : (X.getD a2 0 == 34) with
            | false => rfl
            | true => exact absurd ⟨by rw [HL.out]; exact h, by simpa using hb⟩ hq
          have HDQ := Lib.hid hdq
          have FE2 := Lib.hid (FE1.out.trans (if_neg hq))
          clear hq hdq FE1
          rcases hd with hd | hd
          · have hql : a2 < s.size := by simpa using hd
            have d2 := IDX.out a2 hql
            have hbq := HDQ.out hql
            generalize X.getD a2 0 = q2 at *
            go_wp2_with fail
            clear d2 hbq hd
            refine (reftoken_any _ _ (by rw [ByteArray.size_extract]; omega)).mono ?_
            rintro e w6 ⟨rfl, hb6⟩
            have R6 := Lib.hid (R5.out.below hb6)
            have RA6 := Lib.hid (RA5.out.below hb6)
            have B6 := Lib.hid (bthen B5.out hb6); clear hb6 B5 R5 RA5
            rw [XD.out]
            cases ht : isToken (X.drop a2) with
            | false =>
              have NO := Lib.hid (VN.out (FE2.out.trans (if_neg (by rw [ht]; decide))))
              clear ht
              go_wp2_with (with_reducible refine wpList_storeR rfl 140 (.tmp 2) (.tmp 73) rfl RA6.out Z3 rfl rfl (lenL3 _ _ _ _ _ _) (sizeL3 _ _ _) z3_one B6.out (Nat.le_refl _) ?_)
              intro w7 R7 B7 _
              go_wp2_with fail
              exact bodyPost_ret (results_ct rfl _ _ _ w.heap.size Z3 _ rfl R7.out.range Tryz.underlying140 rfl size3) rfl ⟨by rw [NO.out]; rfl, B7.out⟩
            | true =>
              have YES := Lib.hid (VY.out _ _ (FE2.out.trans (if_pos ht)))
              clear ht
              generalize hUU : s.extract a2 s.size = UU at *
              have HUU := Lib.hid (XS.out)
              rw [← HUU.out] at YES
              have c1 : w6.cell? ⟨w3.heap.size, 1, none⟩ = some (.string ⟨#[]⟩) := R6.out.cell 1
              have f1 := R6.out.frozen 1
              have RX7 := Lib.hid (show Row (w6.setCell ⟨w3.heap.size, 1, none⟩ (.string UU)) w3.heap.size 140 [.string NM, .string UU, .bool true] from R6.out.set 1 _)
              have RA7 := Lib.hid (RA6.out.setOther (p := w3.heap.size) (i := 1) NE.out.symm (.string UU))
              have B7 := Lib.hid (B6.out.setCell (p := ⟨w3.heap.size, 1, none⟩) B3S.out (.string UU))
              go_wp2_with (first
                | (with_reducible refine wpList_loadR rfl 140 (.tmp 6) rfl RX7.out rfl Tryz.underlying140 rfl (sizeL3 _ _ _) ?_)
                | (with_reducible refine wpList_storeR rfl 140 (.tmp 2) (.tmp 78) rfl RA7.out [.string NM, .string UU, .bool true] rfl rfl (lenL3 _ _ _ _ _ _) (sizeL3 _ _ _) (p3_one _ _ _) B7.out (Nat.le_refl _) ?_))
              intro w8 R8 B8 _
              go_wp2_with fail
              exact bodyPost_ret (results_ct rfl _ _ _ w.heap.size [.string NM, .string UU, .bool true] _ rfl R8.out.range Tryz.underlying140 rfl size3) rfl ⟨by rw [YES.out, HNM.out]; rfl, B8.out⟩
          · have hql : s.size ≤ a2 := by simpa using hd
            go_wp2_with fail
            clear hd
            refine (reftoken_any _ _ (by first | (rw [ByteArray.size_extract]; omega) | simp)).mono ?_
            rintro e w6 ⟨rfl, hb6⟩
            have R6 := Lib.hid (R5.out.below hb6)
            have RA6 := Lib.hid (RA5.out.below hb6)
            have B6 := Lib.hid (bthen B5.out hb6); clear hb6 B5 R5 RA5
            have DN := Lib.hid (show X.drop a2 = [] from List.drop_of_length_le (by rw [HL.out]; exact hql))
            have NO := Lib.hid (VN.out (FE2.out.trans (if_neg (by rw [DN.out]; decide))))
            have TKN := Lib.hid (show isToken (byteL (s.extract a2 s.size)) = false by rw [XD.out, DN.out]; rfl)
            rw [TKN.out]
            go_wp2_with (with_reducible refine wpList_storeR rfl 140 (.tmp 2) (.tmp 73) rfl RA6.out Z3 rfl rfl (lenL3 _ _ _ _ _ _) (sizeL3 _ _ _) z3_one B6.out (Nat.le_refl _) ?_)
            intro w7 R7 B7 _
            go_wp2_with fail
            exact bodyPost_ret (results_ct rfl _ _ _ w.heap.size Z3 _ rfl R7.out.range Tryz.underlying140 rfl size3) rfl ⟨by rw [NO.out]; rfl, B7.out⟩
      · have hb2 : (X.getD a 0 != 61) = true := by simp only [bne_iff_ne]; exact h2
        have NO := Lib.hid (VN.out (FE.out.trans (if_pos (.inr (.inr h2)))))
        clear h0 h1 h2
        generalize X.getD a 0 = q at *
        go_wp2_with (with_reducible refine wpList_storeR rfl 140 (.tmp 2) (.tmp 29) rfl R2.out Z3 rfl rfl (lenL3 _ _ _ _ _ _) (sizeL3 _ _ _) z3_one B2.out (Nat.le_refl _) ?_)
        intro w3 R3 B3 _
        go_wp2_with fail
        exact bodyPost_ret (results_ct rfl _ _ _ w.heap.size Z3 _ rfl R3.out.range Tryz.underlying140 rfl size3) rfl ⟨by rw [NO.out]; rfl, B3.out⟩
end Go.Proofs.YtfhbpgickkibmaaGreatDoor
