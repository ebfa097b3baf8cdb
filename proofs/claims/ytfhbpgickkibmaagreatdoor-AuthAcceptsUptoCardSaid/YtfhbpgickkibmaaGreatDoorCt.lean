/- Contracts: auth.readField. Contracts: the reference 02's find and Get. Contract: the reference 07's field. -/
import Derived.Test.YtfhbpgickkibmaaGreatDoorCj
import Derived.Test.YtfhbpgickkibmaaGreatDoorCl
import Derived.Test.YtfhbpgickkibmaaGreatDoorMd
namespace Go.Proofs.YtfhbpgickkibmaaGreatDoor
open Go.RowKit

theorem fldL_eq {xs : List Int} {e1 a a2 : Nat} (he : skipTo isTok xs 0 = e1) (ha : skipTo isBlank xs e1 = a) (ha2 : skipTo isBlank xs (a + 1) = a2) :
    fldL xs = if e1 = 0 ∨ a = xs.length ∨ xs.getD a 0 ≠ 61 then none else
      if a2 < xs.length ∧ xs.getD a2 0 = 34 then (if (unq xs (a2 : Nat)).2.2 ≠ 0 ∨ (unq xs (a2 : Nat)).2.1 ≠ xs.length then none else some (lowS (xs.take e1), (unq xs (a2 : Nat)).1))
      else if isToken (xs.drop a2) = true then some (lowS (xs.take e1), xs.drop a2) else none := by
  subst he; subst ha; subst ha2; rfl
def fldV : Option (List Int × List Int) → Value
  | none => .tuple #[.string ⟨#[]⟩, .string ⟨#[]⟩, .bool false]
  | some (n, v) => .tuple #[.string (strOfNums n), .string (strOfNums v), .bool true]
theorem fldV_no {o : Option (List Int × List Int)} (h : o = none) : fldV o = .tuple #[.string ⟨#[]⟩, .string ⟨#[]⟩, .bool false] := by rw [h]; rfl
theorem fldV_ok {o : Option (List Int × List Int)} {n v : List Int} (h : o = some (n, v)) : fldV o = .tuple #[.string (strOfNums n), .string (strOfNums v), .bool true] := by rw [h]; rfl
theorem token_drop {xs : List Int} {a : Nat} (h : a < xs.length) (h2 : xs.getD a 0 = 34) : isToken (xs.drop a) = false := by
  refine token_quote ?_
  rw [drop_consI xs h, h2]; rfl
theorem unq_bare {xs : List Int} {a : Nat} (ha : a ≤ xs.length) (h : ¬ (a < xs.length ∧ xs.getD a 0 = 34)) : unq xs (a : Nat) = ([], a, 5) := by
  rcases Nat.lt_or_ge a xs.length with h1 | h1
  · exact unq_not h1 (fun e => h ⟨h1, e⟩)
  · exact unq_end (by omega)
theorem take_extract (s : ByteArray) (k : Nat) : byteL (s.extract 0 k) = (byteL s).take k := by rw [byteL_extract, List.drop_zero, Nat.sub_zero]
theorem drop_extract (s : ByteArray) (k : Nat) : byteL (s.extract k s.size) = (byteL s).drop k := by
  rw [byteL_extract, List.take_of_length_le (by rw [List.length_drop, byteL_len]; exact Nat.le_refl _)]
theorem str_extract (s : ByteArray) (k : Nat) : s.extract k s.size = strOfNums ((byteL s).drop k) := by rw [← drop_extract, str_byteL]
theorem clipN {k n : Nat} (h : k ≤ n) : clip (k : Int) n = k := by unfold clip; omega
theorem clip0 (n : Nat) : clip 0 n = 0 := by simp [clip]
theorem tokend0 (s : ByteArray) (w : World) (k : Nat) (hk : skipTo isTok (byteL s) 0 = k) (hs : s.size ≤ 4000000) :
    Calls Tryz.prog 105 #[.string s, .int .i64 0] w fun e w' => e = .returned (.int .i64 (k : Nat)) ∧ Below w.heap.size w w' := by
  subst hk
  have h := tokend_any s 0 w (by omega) (by omega)
  rw [clip0] at h
  exact h
theorem blanksN (s : ByteArray) (z : Int) (n : Nat) (w : World) (k : Nat) (hz : z = n) (hn : n ≤ s.size) (hk : skipTo isBlank (byteL s) n = k) (hs : s.size ≤ 4000000) :
    Calls Tryz.prog 74 #[.string s, .int .i64 z] w fun e w' => e = .returned (.int .i64 (k : Nat)) ∧ Below w.heap.size w w' := by
  subst hk; subst hz
  have h := blanks_any s n w (by omega) (by omega)
  rw [clipN hn] at h
  exact h
set_option maxRecDepth 100000 in
set_option maxHeartbeats 400000 in
theorem readField_any (s : ByteArray) (w : World) (hs : s.size ≤ 4000000) :
    Calls Tryz.prog 77 #[.string s] w fun e w' => e = .returned (fldV (fldL (byteL s))) ∧ Below w.heap.size w w' := by
  have HL := Lib.hid (byteL_len s)
  have HB := Lib.hid (byteL_by s)
  have VN := Lib.hid (fun h => fldV_no (o := fldL (byteL s)) h)
  have VY := Lib.hid (fun n v h => fldV_ok (o := fldL (byteL s)) (n := n) (v := v) h)
  obtain ⟨e1, he1⟩ : ∃ k, skipTo isTok (byteL s) 0 = k := ⟨_, rfl⟩
  obtain ⟨a, ha⟩ : ∃ k, skipTo isBlank (byteL s) e1 = k := ⟨_, rfl⟩
  obtain ⟨a2, ha2⟩ : ∃ k, skipTo isBlank (byteL s) (a + 1) = k := ⟨_, rfl⟩
  have FE := Lib.hid (fldL_eq he1 ha ha2)
  have e1s : e1 ≤ s.size := by rw [← he1, ← byteL_len s]; exact skip_le (Nat.zero_le _)
  have asz : a ≤ s.size := by rw [← ha, ← byteL_len s]; exact skip_le (by rw [byteL_len]; exact e1s)
  have A2S := Lib.hid (show a < s.size → a2 ≤ s.size from fun h => by rw [← ha2, ← byteL_len s]; exact skip_le (by rw [byteL_len]; omega))
  have HE := Lib.hid he1; have HA := Lib.hid ha; have HA2 := Lib.hid ha2
  clear he1 ha ha2
  generalize fldV (fldL (byteL s)) = FV at *
  have IDX := Lib.hid (fun (i : Nat) (h : i < s.size) (w : World) => idx_str s (i := i) h (z := (i : Int)) rfl w)
  have XT := Lib.hid (take_extract s e1)
  have XD := Lib.hid (drop_extract s a2)
  have XS := Lib.hid (str_extract s a2)
  generalize hX : byteL s = X at *
  have HX := Lib.hid hX
  clear hX
  go_enter Tryz.func77, Tryz.ntmps77
  go_wp2_with fail
  refine (tokend0 s _ e1 (by rw [HX.out]; exact HE.out) hs).mono ?_
  rintro e w1 ⟨rfl, hb1⟩
  have B1 := Lib.hid hb1; clear hb1
  go_wp2_with fail
  refine (blanksN s _ e1 _ a rfl e1s (by rw [HX.out]; exact HA.out) hs).mono ?_
  rintro e w2 ⟨rfl, hb2⟩
  have B2 := Lib.hid (bthen B1.out hb2); clear hb2 B1
  by_cases h0 : e1 = 0
  · have hb : ((e1 : Int) == 0) = true := by simp [h0]
    have NO := Lib.hid (VN.out (FE.out.trans (if_pos (.inl h0))))
    clear h0
    go_wp2_with fail
    go_ret3
    exact ⟨by rw [NO.out]; rfl, B2.out⟩
  · have hb : ((e1 : Int) == 0) = false := by simp; omega
    by_cases h1 : a = s.size
    · have hb1 : ((a : Int) == (s.size : Int)) = true := by simp; omega
      have NO := Lib.hid (VN.out (FE.out.trans (if_pos (.inr (.inl (by rw [HL.out]; exact h1))))))
      clear h0 h1
      go_wp2_with fail
      go_ret3
      exact ⟨by rw [NO.out]; rfl, B2.out⟩
    · have hb1 : ((a : Int) == (s.size : Int)) = false := by simp; omega
      have hal : a < s.size := by omega
      have d1 := IDX.out a hal
      by_cases h2 : X.getD a 0 = 61
      · have hb2 : (X.getD a 0 != 61) = false := by simp only [bne_eq_false_iff_eq]; exact h2
        have FE1 := Lib.hid (FE.out.trans (if_neg (by rw [HL.out]; rintro (h | h | h) <;> contradiction)))
        have a2s := A2S.out hal
        clear h0 h1 h2 FE
        generalize X.getD a 0 = q at *
        go_wp2_with fail
        clear d1 hb hb1 hb2
        refine (lower_any _ _ (by rw [ByteArray.size_extract]; omega)).mono ?_
        rintro e w3 ⟨rfl, hb3⟩
        have B3 := Lib.hid (bthen B2.out hb3); clear hb3 B2
        rw [XT.out]
        go_wp2_with fail
        refine (blanksN s _ (a + 1) _ a2 (by push_cast; rfl) (by omega) (by rw [HX.out]; exact HA2.out) hs).mono ?_
        rintro e w4 ⟨rfl, hb4⟩
        have B4 := Lib.hid (bthen B3.out hb4); clear hb4 B3
        go_wp2_with fail
        refine (lexToken_any _ _ (by rw [ByteArray.size_extract]; omega)).mono ?_
        rintro e w5 ⟨rfl, hb5⟩
        have B5 := Lib.hid (bthen B4.out hb5); clear hb5 B4
        rw [XD.out]
        cases ht : isToken (X.drop a2) with
        | true =>
          have hq : ¬ (a2 < X.length ∧ X.getD a2 0 = 34) := fun ⟨h1, h2⟩ => by rw [token_drop h1 h2] at ht; cases ht
          have YES := Lib.hid (VY.out _ _ (FE1.out.trans ((if_neg hq).trans (if_pos ht))))
          clear ht hq
          have i1 : (0 : Int) ≤ (a2 : Int) := by omega
          have i2 : (a2 : Int) ≤ (s.size : Int) := by omega
          go_wp2_with fail
          go_quiet (fail)
          go_wp2_with fail
          go_ret3
          exact ⟨by rw [YES.out, ← XS.out]; rfl, bthen B5.out (below_drewN _ _)⟩
        | false =>
          have TF := Lib.hid ht
          clear ht
          go_wp2_with fail
          refine (unquote_b s a2 (unq X a2) _ (by rw [HX.out]) a2s hs).mono ?_
          rintro e w6 ⟨rfl, hb6⟩
          have B6 := Lib.hid (bthen B5.out hb6); clear hb6 B5
          by_cases hq : a2 < X.length ∧ X.getD a2 0 = 34
          · have FE2 := Lib.hid (FE1.out.trans (if_pos hq))
            clear hq FE1
            generalize unq X a2 = U at *
            obtain ⟨u1, u2, u3⟩ := U
            have FE3 := Lib.hid (show fldL X = if u3 ≠ 0 ∨ u2 ≠ X.length then none else some (lowS (X.take e1), u1) from FE2.out)
            clear FE2
            by_cases hu : u3 = 0
            · subst hu
              by_cases hv : u2 = s.size
              · have hb : ((u2 : Int) != (s.size : Int)) = false := by simp only [bne_eq_false_iff_eq]; omega
                have YES := Lib.hid (VY.out _ _ (FE3.out.trans (if_neg (by rw [HL.out]; rintro (h | h) <;> contradiction))))
                clear hv
                go_wp2_with fail
                go_ret3
                exact ⟨by rw [YES.out]; rfl, B6.out⟩
              · have hb : ((u2 : Int) != (s.size : Int)) = true := by simp only [bne_iff_ne]; omega
                have NO := Lib.hid (VN.out (FE3.out.trans (if_pos (.inr (by rw [HL.out]; exact hv)))))
                clear hv
                go_wp2_with fail
                go_ret3
                exact ⟨by rw [NO.out]; rfl, B6.out⟩
            · have hb : (u3 != 0) = true := by simp only [bne_iff_ne]; exact hu
              have NO := Lib.hid (VN.out (FE3.out.trans (if_pos (.inl hu))))
              clear hu
              go_wp2_with fail
              go_ret3
              exact ⟨by rw [NO.out]; rfl, B6.out⟩
          · have NO := Lib.hid (VN.out (FE1.out.trans ((if_neg hq).trans (if_neg (by rw [TF.out]; decide)))))
            rw [unq_bare (by rw [HL.out]; exact a2s) hq]
            clear hq
            go_wp2_with fail
            go_ret3
            exact ⟨by rw [NO.out]; rfl, B6.out⟩
      · have hb2 : (X.getD a 0 != 61) = true := by simp only [bne_iff_ne]; exact h2
        have NO := Lib.hid (VN.out (FE.out.trans (if_pos (.inr (.inr h2)))))
        clear h0 h1 h2
        generalize X.getD a 0 = q at *
        go_wp2_with fail
        go_ret3
        exact ⟨by rw [NO.out]; rfl, B2.out⟩
end Go.Proofs.YtfhbpgickkibmaaGreatDoor
namespace Go.Proofs.YtfhbpgickkibmaaGreatDoor
open Go.RowKit

/-- A slice that reads as these cells. -/
def Rds (w : World) (B : Nat) (A : Option Addr) (cs : List Value) : Prop := 0 < cs.length → ∃ b o, A = some ⟨b, o, none⟩ ∧ b < B ∧ ∀ j u, cs[j]? = some u → w.cell? ⟨b, o + j, none⟩ = some u
theorem Rds.keep {w w' : World} {B : Nat} {A : Option Addr} {cs : List Value} (h : Rds w B A cs) (hk : ∀ p : Addr, p.block < B → w'.cell? p = w.cell? p) : Rds w' B A cs := fun hn => by
  obtain ⟨b, o, e, hb, hc⟩ := h hn
  exact ⟨b, o, e, hb, fun j u hu => (hk ⟨b, o + j, none⟩ hb).trans (hc j u hu)⟩
theorem Rds.below {w w' : World} {B : Nat} {A : Option Addr} {cs : List Value} (h : Rds w B A cs) (hb : Below B w w') : Rds w' B A cs := h.keep fun _ hp => hb.cell hp
theorem Rds.up {w : World} {B B' : Nat} {A : Option Addr} {cs : List Value} (h : Rds w B A cs) (hB : B ≤ B') : Rds w B' A cs := fun hn => by
  obtain ⟨b, o, e, hb, hc⟩ := h hn
  exact ⟨b, o, e, Nat.lt_of_lt_of_le hb hB, hc⟩
def prmBy (p : Prm) : Prop := By p.n ∧ By p.v ∧ p.n.length ≤ 4000000 ∧ p.v.length ≤ 4000000
def findP (ps : List Prm) (nm : List Int) : Option Nat := ps.findIdx? fun p => lowS p.n == lowS nm
def findV : Option Nat → Int
  | none => -1
  | some i => i
theorem toList_beq {a b : List Int} (ha : By a) (hb : By b) : ((strOfNums a).toList == (strOfNums b).toList) = (a == b) := by
  rw [Bool.eq_iff_iff, beq_iff_eq, beq_iff_eq, toList_inj, num_inj ha hb]
theorem num_size (l : List Int) : (strOfNums l).size = l.length := strOfNums_size l
def getP (ps : List Prm) (nm : List Int) : Option (List Int) := (ps.find? fun p => lowS p.n == lowS nm).map (·.v)
def getV : Option (List Int) → Value
  | none => .tuple #[.string ⟨#[]⟩, .bool false]
  | some v => .tuple #[.string (strOfNums v), .bool true]
end Go.Proofs.YtfhbpgickkibmaaGreatDoor
namespace Go.Proofs.YtfhbpgickkibmaaGreatDoor
open Go.RowKit

abbrev Z3 : List Value := [.string ⟨#[]⟩, .string ⟨#[]⟩, .bool false]
def rfldV : Option (List Int × List Int) → Value
  | none => .tuple #[.agg #[.string ⟨#[]⟩, .string ⟨#[]⟩, .bool false], .int .u8 5]
  | some (n, v) => .tuple #[.agg #[.string (strOfNums n), .string (strOfNums v), .bool true], .int .u8 0]
end Go.Proofs.YtfhbpgickkibmaaGreatDoor
