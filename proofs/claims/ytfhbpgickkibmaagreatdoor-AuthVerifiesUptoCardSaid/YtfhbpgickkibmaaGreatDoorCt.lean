/- Contract: the reference 07's field. -/
import Derived.Test.YtfhbpgickkibmaaGreatDoorCs
namespace Go.Proofs.YtfhbpgickkibmaaGreatDoor
open Go.RowKit

theorem size3 : (Tryz.prog.info? 140).map (·.size) = some 3 := by kernel_rfl
abbrev Z3 : List Value := [.string ⟨#[]⟩, .string ⟨#[]⟩, .bool false]
theorem sizeL3 (a b c : Value) : (Tryz.prog.info? 140).map (·.size) = some [a, b, c].length := size3
theorem lenL3 (a b c d e f : Value) : [a, b, c].length = [d, e, f].length := rfl
theorem z3_one : ∀ u ∈ Z3, u.oneCell' = true := fun u hu => by
  simp [Z3] at hu
  rcases hu with rfl | rfl <;> rfl
theorem p3_one (a b : ByteArray) (h : Bool) : ∀ u ∈ [Value.string a, .string b, .bool h], u.oneCell' = true := fun u hu => by
  simp at hu
  rcases hu with rfl | rfl | rfl <;> rfl
def rfldV : Option (List Int × List Int) → Value
  | none => .tuple #[.agg #[.string ⟨#[]⟩, .string ⟨#[]⟩, .bool false], .int .u8 5]
  | some (n, v) => .tuple #[.agg #[.string (strOfNums n), .string (strOfNums v), .bool true], .int .u8 0]
theorem rfldV_no {o : Option (List Int × List Int)} (h : o = none) : rfldV o = .tuple #[.agg #[.string ⟨#[]⟩, .string ⟨#[]⟩, .bool false], .int .u8 5] := by rw [h]; rfl
theorem rfldV_ok {o : Option (List Int × List Int)} {n v : List Int} (h : o = some (n, v)) : rfldV o = .tuple #[.agg #[.string (strOfNums n), .string (strOfNums v), .bool true], .int .u8 0] := by rw [h]; rfl
set_option maxRecDepth 100000 in
set_option maxHeartbeats 1000000 in
theorem reffield_any (s : ByteArray) (w : World) (hs : s.size ≤ 4000000) :
    Calls Tryz.prog 82 #[.string s] w fun e w' => e = .returned (rfldV (fldL (byteL s))) ∧ Below w.heap.size w w' := by
  have HL := Lib.hid (byteL_len s)
  have VN := Lib.hid (fun h => rfldV_no (o := fldL (byteL s)) h)
  have VY := Lib.hid (fun n v h => rfldV_ok (o := fldL (byteL s)) (n := n) (v := v) h)
  obtain ⟨e1, he1⟩ : ∃ k, skipTo isTok (byteL s) 0 = k := ⟨_, rfl⟩
  obtain ⟨a, ha⟩ : ∃ k, skipTo isBlank (byteL s) e1 = k := ⟨_, rfl⟩
  obtain ⟨a2, ha2⟩ : ∃ k, skipTo isBlank (byteL s) (a + 1) = k := ⟨_, rfl⟩
  have FE := Lib.hid (fldL_eq he1 ha ha2)
  have e1s : e1 ≤ s.size := by rw [← he1, ← byteL_len s]; exact skip_le (Nat.zero_le _)
  have asz : a ≤ s.size := by rw [← ha, ← byteL_len s]; exact skip_le (by rw [byteL_len]; exact e1s)
  have A2S := Lib.hid (show a < s.size → a2 ≤ s.size from fun h => by rw [← ha2, ← byteL_len s]; exact skip_le (by rw [byteL_len]; omega))
  have HE := Lib.hid he1; have HA := Lib.hid ha; have HA2 := Lib.hid ha2
  clear he1 ha ha2
  generalize rfldV (fldL (byteL s)) = FV at *
  have IDX := Lib.hid (fun (i : Nat) (h : i < s.size) (w : World) => idx_str s (i := i) h (z := (i : Int)) rfl w)
  have XT := Lib.hid (take_extract s e1)
  have XD := Lib.hid (drop_extract s a2)
  have XS := Lib.hid (str_extract s a2)
  generalize hX : byteL s = X at *
  have HX := Lib.hid hX
  clear hX
  have R0 := Lib.hid (Row.new w 140 Z3)
  have B0 := Lib.hid ((Below.refl w.heap.size w).alloc (Nat.le_refl _) (.cells Z3.toArray 140))
  go_enter Tryz.func82, Tryz.ntmps82
  go_wp2_with fail
  refine (reftokend0 s _ e1 (by rw [HX.out]; exact HE.out) hs).mono ?_
  rintro e w1 ⟨rfl, hb1⟩
  have R1 := Lib.hid (R0.out.below hb1)
  have B1 := Lib.hid (bthen B0.out hb1); clear hb1 R0 B0
  go_wp2_with fail
  refine (refblanksN s _ e1 _ a rfl e1s (by rw [HX.out]; exact HA.out) hs).mono ?_
  rintro e w2 ⟨rfl, hb2⟩
  have R2 := Lib.hid (R1.out.below hb2)
  have B2 := Lib.hid (bthen B1.out hb2); clear hb2 B1 R1
  by_cases h0 : e1 = 0
  · have hb : ((e1 : Int) == 0) = true := by simp [h0]
    have NO := Lib.hid (VN.out (FE.out.trans (if_pos (.inl h0))))
    clear h0
    go_wp2_with (with_reducible refine wpList_storeR rfl 140 (.tmp 2) (.tmp 29) rfl R2.out Z3 rfl rfl (lenL3 _ _ _ _ _ _) (sizeL3 _ _ _) z3_one B2.out (Nat.le_refl _) ?_)
    intro w3 R3 B3 _
    go_wp2_with fail
    exact bodyPost_ret (results_ct rfl _ _ _ w.heap.size Z3 _ rfl R3.out.range Tryz.underlying140 rfl size3) rfl ⟨by rw [NO.out]; rfl, B3.out⟩
  · have hb : ((e1 : Int) == 0) = false := by simp; omega
    by_cases h1 : a = s.size
    · have hb1 : ((a : Int) == (s.size : Int)) = true := by simp; omega
      have NO := Lib.hid (VN.out (FE.out.trans (if_pos (.inr (.inl (by rw [HL.out]; exact h1))))))
      clear h0 h1
      go_wp2_with (with_reducible refine wpList_storeR rfl 140 (.tmp 2) (.tmp 29) rfl R2.out Z3 rfl rfl (lenL3 _ _ _ _ _ _) (sizeL3 _ _ _) z3_one B2.out (Nat.le_refl _) ?_)
      intro w3 R3 B3 _
      go_wp2_with fail
      exact bodyPost_ret (results_ct rfl _ _ _ w.heap.size Z3 _ rfl R3.out.range Tryz.underlying140 rfl size3) rfl ⟨by rw [NO.out]; rfl, B3.out⟩
    · have hb1 : ((a : Int) == (s.size : Int)) = false := by simp; omega
      have hal : a < s.size := by omega
      have d1 := IDX.out a hal
      by_cases h2 : X.getD a 0 = 61
      · have hb2 : (X.getD a 0 != 61) = false := by simp only [bne_eq_false_iff_eq]; exact h2
        have FE1 := Lib.hid (FE.out.trans (if_neg (by rw [HL.out]; rintro (h | h | h) <;> contradiction)))
        have a2s := A2S.out hal
        clear h0 h1 h2 FE
        generalize X.getD a 0 = q at *
        go_wp2_with fail
        clear d1 hb hb1 hb2
        refine (refblanksN s _ (a + 1) _ a2 (by push_cast; rfl) (by omega) (by rw [HX.out]; exact HA2.out) hs).mono ?_
        rintro e w4 ⟨rfl, hb4⟩
        have R4 := Lib.hid (R2.out.below hb4)
        have B4 := Lib.hid (bthen B2.out hb4); clear hb4 B2 R2
        go_wp2_with fail
        refine (reflower_any _ _ (by rw [ByteArray.size_extract]; omega)).mono ?_
        rintro e w3 ⟨rfl, hb3⟩
        have R3 := Lib.hid (R4.out.below hb3)
        have B3 := Lib.hid (bthen B4.out hb3); clear hb3 B4 R4
        rw [XT.out]
        generalize hNM : strOfNums (lowS (X.take e1)) = NM at *
        have HNM := Lib.hid hNM
        clear hNM
        have RB0 := Lib.hid (Row.new w3 140 Z3)
        have RA := Lib.hid (R3.out.alloc (.cells Z3.toArray 140))
        have BA := Lib.hid (B3.out.alloc B3.out.size (.cells Z3.toArray 140))
        have NE := Lib.hid (show w.heap.size ≠ w3.heap.size by have := R3.out.lt; omega)
        have B3S := Lib.hid B3.out.size
        go_wp2_with (with_reducible refine wpList_storeR rfl 140 (.tmp 6) (.tmp 38) rfl RB0.out [.string NM, .string ⟨#[]⟩, .bool true] rfl rfl (lenL3 _ _ _ _ _ _) (sizeL3 _ _ _) (p3_one _ _ _) BA.out B3.out.size ?_)
        intro w5 R5 B5 K5
        have RA5 := Lib.hid (RA.out.heap (K5.out.2 _ NE.out))
        clear R3 B3 RB0 RA BA
        clear K5
        by_cases hq : a2 < X.length ∧ X.getD a2 0 = 34
        · have hql : a2 < s.size := by rw [← HL.out]; exact hq.1
          have hd : decide (a2 < s.size) = true := by simp [hql]
          have d2 := IDX.out a2 hql
          rw [hq.2] at d2
          have FE2 := Lib.hid (FE1.out.trans (if_pos hq))
          clear hq FE1
          go_wp2_with fail
          clear d2 hd
          refine (refunquote_b s a2 (unq X a2) _ (by rw [HX.out]) a2s hs).mono ?_
          rintro e w6 ⟨rfl, hb6⟩
          have R6 := Lib.hid (R5.out.below hb6)
          have RA6 := Lib.hid (RA5.out.below hb6)
          have B6 := Lib.hid (bthen B5.out hb6); clear hb6 B5 R5 RA5
          generalize unq X a2 = U at *
          obtain ⟨u1, u2, u3⟩ := U
          have FE3 := Lib.hid (show fldL X = if u3 ≠ 0 ∨ u2 ≠ X.length then none else some (lowS (X.take e1), u1) from FE2.out)
          clear FE2
          by_cases hu : u3 = 0
          · subst hu
            by_cases hv : u2 = s.size
            · have hb : ((u2 : Int) != (s.size : Int)) = false := by simp only [bne_eq_false_iff_eq]; omega
              have YES := Lib.hid (VY.out _ _ (FE3.out.trans (if_neg (by rw [HL.out]; rintro (h | h) <;> contradiction))))
              clear hv
              generalize hUU : strOfNums u1 = UU at *
              have HUU := Lib.hid hUU
              clear hUU
              have c1 : w6.cell? ⟨w3.heap.size, 1, none⟩ = some (.string ⟨#[]⟩) := R6.out.cell 1
              have f1 := R6.out.frozen 1
              have RX7 := Lib.hid (show Row (w6.setCell ⟨w3.heap.size, 1, none⟩ (.string UU)) w3.heap.size 140 [.string NM, .string UU, .bool true] from R6.out.set 1 _)
              have RA7 := Lib.hid (RA6.out.setOther (p := w3.heap.size) (i := 1) NE.out.symm (.string UU))
              have B7 := Lib.hid (B6.out.setCell (p := ⟨w3.heap.size, 1, none⟩) B3S.out (.string UU))
              go_wp2_with (first
                | (with_reducible refine wpList_loadR rfl 140 (.tmp 6) rfl RX7.out rfl Tryz.underlying140 rfl (sizeL3 _ _ _) ?_)
                | (with_reducible refine wpList_storeR rfl 140 (.tmp 2) (.tmp 67) rfl RA7.out [.string NM, .string UU, .bool true] rfl rfl (lenL3 _ _ _ _ _ _) (sizeL3 _ _ _) (p3_one _ _ _) B7.out (Nat.le_refl _) ?_))
              intro w8 R8 B8 _
              go_wp2_with fail
              exact bodyPost_ret (results_ct rfl _ _ _ w.heap.size [.string NM, .string UU, .bool true] _ rfl R8.out.range Tryz.underlying140 rfl size3) rfl ⟨by rw [YES.out, HNM.out]; rfl, B8.out⟩
            · have hb : ((u2 : Int) != (s.size : Int)) = true := by simp only [bne_iff_ne]; omega
              have NO := Lib.hid (VN.out (FE3.out.trans (if_pos (.inr (by rw [HL.out]; exact hv)))))
              clear hv
              go_wp2_with (with_reducible refine wpList_storeR rfl 140 (.tmp 2) (.tmp 64) rfl RA6.out Z3 rfl rfl (lenL3 _ _ _ _ _ _) (sizeL3 _ _ _) z3_one B6.out (Nat.le_refl _) ?_)
              intro w7 R7 B7 _
              go_wp2_with fail
              exact bodyPost_ret (results_ct rfl _ _ _ w.heap.size Z3 _ rfl R7.out.range Tryz.underlying140 rfl size3) rfl ⟨by rw [NO.out]; rfl, B7.out⟩
          · have hb : (u3 != 0) = true := by simp only [bne_iff_ne]; exact hu
            have NO := Lib.hid (VN.out (FE3.out.trans (if_pos (.inl hu))))
            clear hu
            go_wp2_with (with_reducible refine wpList_storeR rfl 140 (.tmp 2) (.tmp 64) rfl RA6.out Z3 rfl rfl (lenL3 _ _ _ _ _ _) (sizeL3 _ _ _) z3_one B6.out (Nat.le_refl _) ?_)
            intro w7 R7 B7 _
            go_wp2_with fail
            exact bodyPost_ret (results_ct rfl _ _ _ w.heap.size Z3 _ rfl R7.out.range Tryz.underlying140 rfl size3) rfl ⟨by rw [NO.out]; rfl, B7.out⟩
        · have hd : decide (a2 < s.size) = true ∨ decide (a2 < s.size) = false := by cases decide (a2 < s.size) <;> simp
          have hdq : ∀ (h : a2 < s.size), ((X.getD a2 0) == 34) = false := fun h => by
            cases hb : (X.getD a2 0 == 34) with
            | false => rfl
            | true => exact absurd ⟨by rw [HL.out]; exact h, by simpa using hb⟩ hq
          have HDQ := Lib.hid hdq
          have FE2 := Lib.hid (FE1.out.trans (if_neg hq))
          clear hq hdq FE1
          rcases hd with hd | hd
          · have hql : a2 < s.size := by simpa using hd
            have d2 := IDX.out a2 hql
            have hbq := HDQ.out hql
            generalize X.getD a2 0 = q2 at *
            go_wp2_with fail
            clear d2 hbq hd
            refine (reftoken_any _ _ (by rw [ByteArray.size_extract]; omega)).mono ?_
            rintro e w6 ⟨rfl, hb6⟩
            have R6 := Lib.hid (R5.out.below hb6)
            have RA6 := Lib.hid (RA5.out.below hb6)
            have B6 := Lib.hid (bthen B5.out hb6); clear hb6 B5 R5 RA5
            rw [XD.out]
            cases ht : isToken (X.drop a2) with
            | false =>
              have NO := Lib.hid (VN.out (FE2.out.trans (if_neg (by rw [ht]; decide))))
              clear ht
              go_wp2_with (with_reducible refine wpList_storeR rfl 140 (.tmp 2) (.tmp 73) rfl RA6.out Z3 rfl rfl (lenL3 _ _ _ _ _ _) (sizeL3 _ _ _) z3_one B6.out (Nat.le_refl _) ?_)
              intro w7 R7 B7 _
              go_wp2_with fail
              exact bodyPost_ret (results_ct rfl _ _ _ w.heap.size Z3 _ rfl R7.out.range Tryz.underlying140 rfl size3) rfl ⟨by rw [NO.out]; rfl, B7.out⟩
            | true =>
              have YES := Lib.hid (VY.out _ _ (FE2.out.trans (if_pos ht)))
              clear ht
              generalize hUU : s.extract a2 s.size = UU at *
              have HUU := Lib.hid (XS.out)
              rw [← HUU.out] at YES
              have c1 : w6.cell? ⟨w3.heap.size, 1, none⟩ = some (.string ⟨#[]⟩) := R6.out.cell 1
              have f1 := R6.out.frozen 1
              have RX7 := Lib.hid (show Row (w6.setCell ⟨w3.heap.size, 1, none⟩ (.string UU)) w3.heap.size 140 [.string NM, .string UU, .bool true] from R6.out.set 1 _)
              have RA7 := Lib.hid (RA6.out.setOther (p := w3.heap.size) (i := 1) NE.out.symm (.string UU))
              have B7 := Lib.hid (B6.out.setCell (p := ⟨w3.heap.size, 1, none⟩) B3S.out (.string UU))
              go_wp2_with (first
                | (with_reducible refine wpList_loadR rfl 140 (.tmp 6) rfl RX7.out rfl Tryz.underlying140 rfl (sizeL3 _ _ _) ?_)
                | (with_reducible refine wpList_storeR rfl 140 (.tmp 2) (.tmp 78) rfl RA7.out [.string NM, .string UU, .bool true] rfl rfl (lenL3 _ _ _ _ _ _) (sizeL3 _ _ _) (p3_one _ _ _) B7.out (Nat.le_refl _) ?_))
              intro w8 R8 B8 _
              go_wp2_with fail
              exact bodyPost_ret (results_ct rfl _ _ _ w.heap.size [.string NM, .string UU, .bool true] _ rfl R8.out.range Tryz.underlying140 rfl size3) rfl ⟨by rw [YES.out, HNM.out]; rfl, B8.out⟩
          · have hql : s.size ≤ a2 := by simpa using hd
            go_wp2_with fail
            clear hd
            refine (reftoken_any _ _ (by first | (rw [ByteArray.size_extract]; omega) | simp)).mono ?_
            rintro e w6 ⟨rfl, hb6⟩
            have R6 := Lib.hid (R5.out.below hb6)
            have RA6 := Lib.hid (RA5.out.below hb6)
            have B6 := Lib.hid (bthen B5.out hb6); clear hb6 B5 R5 RA5
            have DN := Lib.hid (show X.drop a2 = [] from List.drop_of_length_le (by rw [HL.out]; exact hql))
            have NO := Lib.hid (VN.out (FE2.out.trans (if_neg (by rw [DN.out]; decide))))
            have TKN := Lib.hid (show isToken (byteL (s.extract a2 s.size)) = false by rw [XD.out, DN.out]; rfl)
            rw [TKN.out]
            go_wp2_with (with_reducible refine wpList_storeR rfl 140 (.tmp 2) (.tmp 73) rfl RA6.out Z3 rfl rfl (lenL3 _ _ _ _ _ _) (sizeL3 _ _ _) z3_one B6.out (Nat.le_refl _) ?_)
            intro w7 R7 B7 _
            go_wp2_with fail
            exact bodyPost_ret (results_ct rfl _ _ _ w.heap.size Z3 _ rfl R7.out.range Tryz.underlying140 rfl size3) rfl ⟨by rw [NO.out]; rfl, B7.out⟩
      · have hb2 : (X.getD a 0 != 61) = true := by simp only [bne_iff_ne]; exact h2
        have NO := Lib.hid (VN.out (FE.out.trans (if_pos (.inr (.inr h2)))))
        clear h0 h1 h2
        generalize X.getD a 0 = q at *
        go_wp2_with (with_reducible refine wpList_storeR rfl 140 (.tmp 2) (.tmp 29) rfl R2.out Z3 rfl rfl (lenL3 _ _ _ _ _ _) (sizeL3 _ _ _) z3_one B2.out (Nat.le_refl _) ?_)
        intro w3 R3 B3 _
        go_wp2_with fail
        exact bodyPost_ret (results_ct rfl _ _ _ w.heap.size Z3 _ rfl R3.out.range Tryz.underlying140 rfl size3) rfl ⟨by rw [NO.out]; rfl, B3.out⟩
end Go.Proofs.YtfhbpgickkibmaaGreatDoor
