/- Contracts of the reference 01: Blank, Control, TokenChar, Blanks, TokenEnd, Token, Trim. Contracts: lexis.piece, the reference 01's piece. Contracts of lexis: Unquote. -/
import Derived.Test.YthfonniieaiocaaGreatDoorCc
import Derived.Test.YthfonniieaiocaaGreatDoorPe
import Derived.Test.YthfonniieaiocaaGreatDoorAc
import Derived.Test.YthfonniieaiocaaGreatDoorHa
import Derived.Outline
import Derived.Deep.LoopGhost
set_option linter.unusedVariables false
set_option linter.unusedSimpArgs false
namespace Go.Proofs.YthfonniieaiocaaGreatDoor
open Go.RowKit

def TOKS : List Int := [45, 46, 33, 37, 42, 95, 43, 39, 126]
end Go.Proofs.YthfonniieaiocaaGreatDoor
namespace Go.Proofs.YthfonniieaiocaaGreatDoor
open Go.RowKit

end Go.Proofs.YthfonniieaiocaaGreatDoor
namespace Go.Proofs.YthfonniieaiocaaGreatDoor
open Go.RowKit

section
variable {xs L : List Int} {i : Nat} {c : Int}
theorem U_end (h : xs.length ≤ i) : uqL (xs.drop i) i L = ([], i, 6) := by rw [List.drop_of_length_le h, uqL]
theorem U_q (h : i < xs.length) (hc : xs.getD i 0 = c) (h1 : c = 34) : uqL (xs.drop i) i L = (L, i + 1, 0) := by rw [drop_consI xs h, hc, uqL.eq_def]; exact if_pos h1
theorem U_e0 (h : i < xs.length) (hc : xs.getD i 0 = c) (h1 : c = 92) (h2 : i + 1 = xs.length) : uqL (xs.drop i) i L = ([], i + 1, 6) := by
  subst h1
  rw [drop_consI xs h, hc, List.drop_of_length_le (by omega), uqL, if_neg (by decide), if_pos rfl]
theorem U_e1 (h : i < xs.length) (hc : xs.getD i 0 = c) (h1 : c = 92) (h2 : i + 1 < xs.length) (h3 : 32 ≤ xs.getD (i + 1) 0 ∧ xs.getD (i + 1) 0 ≤ 126) : uqL (xs.drop i) i L = uqL (xs.drop (i + 2)) (i + 2) (L ++ [xs.getD (i + 1) 0]) := by
  subst h1
  rw [drop_consI xs h, hc, drop_consI xs h2, uqL, if_neg (by decide), if_pos rfl, if_pos h3]
theorem U_e2 (h : i < xs.length) (hc : xs.getD i 0 = c) (h1 : c = 92) (h2 : i + 1 < xs.length) (h3 : ¬ (32 ≤ xs.getD (i + 1) 0 ∧ xs.getD (i + 1) 0 ≤ 126)) : uqL (xs.drop i) i L = ([], i, 5) := by
  subst h1
  rw [drop_consI xs h, hc, drop_consI xs h2, uqL, if_neg (by decide), if_pos rfl, if_neg h3]
theorem U_c (h : i < xs.length) (hc : xs.getD i 0 = c) (h1 : c ≠ 34) (h2 : c ≠ 92) (h3 : isCtl c = true) : uqL (xs.drop i) i L = ([], i, 5) := by
  rw [drop_consI xs h, hc, uqL.eq_def]
  dsimp only
  rw [if_neg h1, if_neg h2, if_pos h3]
theorem U_p (h : i < xs.length) (hc : xs.getD i 0 = c) (h1 : c ≠ 34) (h2 : c ≠ 92) (h3 : isCtl c = false) : uqL (xs.drop i) i L = uqL (xs.drop (i + 1)) (i + 1) (L ++ [c]) := by
  rw [drop_consI xs h, hc]
  conv => lhs; rw [uqL.eq_def]
  dsimp only
  rw [if_neg h1, if_neg h2, if_neg (by rw [h3]; decide)]
end
def unqV (r : List Int × Nat × Int) : Value := .tuple #[.string (strOfNums r.1), .int .i64 (r.2.1 : Nat), .int .u8 r.2.2]
theorem unqV_no {r : List Int × Nat × Int} {n : Nat} {e : Int} (h : r = ([], n, e)) : unqV r = .tuple #[.string ⟨#[]⟩, .int .i64 (n : Nat), .int .u8 e] := by rw [h]; rfl
theorem unqV_ok {r : List Int × Nat × Int} {l : List Int} {n : Nat} {e : Int} (h : r = (l, n, e)) : unqV r = .tuple #[.string (strOfNums l), .int .i64 (n : Nat), .int .u8 e] := by rw [h]; rfl
theorem unq_bad {xs : List Int} {z : Int} (h : z < 0 ∨ (xs.length : Int) < z) : unq xs z = ([], 0, 2) := if_pos h
theorem unq_end {xs : List Int} {n : Nat} (h : n = xs.length) : unq xs n = ([], n, 5) := by
  unfold unq; rw [if_neg (by omega), if_pos (.inl (by omega))]; rfl
theorem unq_not {xs : List Int} {n : Nat} (h : n < xs.length) (h2 : xs.getD n 0 ≠ 34) : unq xs n = ([], n, 5) := by
  unfold unq; rw [if_neg (by omega), if_pos (.inr (by rw [Int.toNat_natCast]; exact h2))]; rfl
theorem unq_go {xs : List Int} {n : Nat} (h : n < xs.length) (h2 : xs.getD n 0 = 34) : unq xs n = uqL (xs.drop (n + 1)) (n + 1) [] := by
  unfold unq
  rw [if_neg (by omega), if_neg, Int.toNat_natCast]
  rintro (h3 | h3)
  · omega
  · exact h3 (by rw [Int.toNat_natCast]; exact h2)
def UR (w : World) (xs : List Int) (z : Int) (m : Nat) (v7 v8 : Value) (wr : World) : Prop := ∃ (i : Nat) (x : Value) (L : List Int), i ≤ m ∧ x = v7 ∧ v8 = .int .i64 i ∧ L.length ≤ i ∧ Hid (unq xs z = uqL (xs.drop i) i L ∧ OX w x L wr)
set_option maxRecDepth 100000 in
set_option maxHeartbeats 400000 in
theorem unquote_any (s : ByteArray) (z : Int) (w : World) (hz : -9223372036854775808 ≤ z ∧ z < 9223372036854775808) (hM : s.size ≤ 4000000) :
    Calls Tryz.prog 145 #[.string s, .int .i64 z] w fun e w' => e = .returned (unqV (unq (byteL s) z)) ∧ Below w.heap.size w w' := by
  have HB := Lib.hid (byteL_by s)
  have HL := Lib.hid (byteL_len s)
  have VN := Lib.hid (fun n e h => unqV_no (r := unq (byteL s) z) (n := n) (e := e) h)
  have VY := Lib.hid (fun l n e h => unqV_ok (r := unq (byteL s) z) (l := l) (n := n) (e := e) h)
  generalize hX : byteL s = X at *
  have HX := Lib.hid hX
  clear hX
  generalize unqV (unq X z) = RV at *
  rcases (show z < 0 ∨ (s.size : Int) < z ∨ (0 ≤ z ∧ z ≤ s.size) by omega) with h | h | ⟨h, h'⟩
  · have hd : decide (z < 0) = true := by simp [h]
    have BAD := Lib.hid (unq_bad (xs := X) (.inl h))
    clear hz
    go_enter Tryz.func145, Tryz.ntmps145
    go_wp2_with fail
    go_step3
    go_wp2_with fail
    try rw [Exit.noGoto_ret]
    go_ret3
    exact ⟨by rw [VN.out _ _ BAD.out]; rfl, Below.refl _ _⟩
  · have hd : decide (z < 0) = false := by simp; omega
    have hd2 : decide ((s.size : Int) < z) = true := by simp [h]
    have BAD := Lib.hid (unq_bad (xs := X) (z := z) (.inr (by rw [HL.out]; exact h)))
    clear hz
    go_enter Tryz.func145, Tryz.ntmps145
    go_wp2_with fail
    go_step3
    go_wp2_with fail
    try rw [Exit.noGoto_ret]
    go_ret3
    exact ⟨by rw [VN.out _ _ BAD.out]; rfl, Below.refl _ _⟩
  · obtain ⟨n, rfl⟩ := Int.eq_ofNat_of_zero_le h
    clear h hz
    have hn : n ≤ s.size := by omega
    clear h'
    have hd : decide ((n : Int) < 0) = false := by simp
    have hd2 : decide (s.size < n) = false := by simp; omega
    by_cases he : n = s.size
    · have BAD := Lib.hid (unq_end (xs := X) (n := n) (by rw [HL.out]; exact he))
      have hd3 : ((n : Int) == (s.size : Int)) = true := by simp; omega
      clear he
      go_enter Tryz.func145, Tryz.ntmps145
      go_wp2_with fail
      go_step3
      go_wp2_with fail
      try rw [Exit.noGoto_ret]
      go_ret3
      exact ⟨by rw [VN.out _ _ BAD.out]; rfl, Below.refl _ _⟩
    · have hlt : n < s.size := by omega
      have hd3 : ((n : Int) == (s.size : Int)) = false := by simp; omega
      clear he hn
      have d1 := fun w => idx_str s (i := n) hlt (z := (n : Int)) rfl w
      rw [HX.out] at d1
      have BAD := Lib.hid (fun h => unq_not (xs := X) (n := n) (by rw [HL.out]; exact hlt) h)
      have OK := Lib.hid (fun h => unq_go (xs := X) (n := n) (by rw [HL.out]; exact hlt) h)
      generalize X.getD n 0 = q at *
      by_cases hq : q = 34
      · subst hq
        go_enter Tryz.func145, Tryz.ntmps145
        go_wp2_with fail
        go_step3
        go_wp2_with fail
        go_step3
        go_wp2_with fail
        clear d1 hd hd2 hd3 BAD
        go_loopw [7, 8] (fun v7 v8 wr => UR w X n s.size v7 v8 wr) (fun _ v _ => s.size - (intOf v).toNat)
        case atStart => exact ⟨n + 1, _, [], by omega, rfl, by go_num, by simp, Lib.hid ⟨OK.out trivial, OX.nil w⟩⟩
        case round =>
          obtain ⟨i, x, L, hi, rfl, rfl, hL, H⟩ := hrel
          clear OK
          by_cases hil : i < s.size
          · have hd : decide ((i : Int) < (s.size : Int)) = true := by simp; omega
            have hdg : decide ((s.size : Int) ≤ (i : Int)) = false := by simp; omega
            have d1 := fun w => idx_str s (i := i) hil (z := (i : Int)) rfl w
            have hx2 := HB.out _ (getD_mem (l := X) (i := i) (by rw [HL.out]; exact hil))
            rw [HX.out] at d1
            have hil' : i < X.length := by rw [HL.out]; exact hil
            have UQ := Lib.hid (fun c hc h => U_q (xs := X) (L := L) (i := i) (c := c) hil' hc h)
            have UE0 := Lib.hid (fun c hc h h2 => U_e0 (xs := X) (L := L) (i := i) (c := c) hil' hc h h2)
            have UE1 := Lib.hid (fun c hc h h2 h3 => U_e1 (xs := X) (L := L) (i := i) (c := c) hil' hc h h2 h3)
            have UE2 := Lib.hid (fun c hc h h2 h3 => U_e2 (xs := X) (L := L) (i := i) (c := c) hil' hc h h2 h3)
            have UC := Lib.hid (fun c hc h h2 h3 => U_c (xs := X) (L := L) (i := i) (c := c) hil' hc h h2 h3)
            have UP := Lib.hid (fun c hc h h2 h3 => U_p (xs := X) (L := L) (i := i) (c := c) hil' hc h h2 h3)
            clear hil'
            generalize hcq : X.getD i 0 = c at *
            have CE := Lib.hid hcq
            clear hcq
            by_cases h34 : c = 34
            · subst h34
              have cv := conv_owned H.out.2.o
              go_wp2_with fail
              try rw [Exit.noGoto_ret]
              go_ret3
              exact ⟨by rw [VY.out _ _ _ (H.out.1.trans (UQ.out 34 rfl rfl))]; rfl, H.out.2.bw⟩
            · have b34 : (c == 34) = false := by simp; omega
              by_cases h92 : c = 92
              · subst h92
                clear b34 h34
                by_cases hl2 : i + 1 < s.size
                · have e1 : ((i : Int) + 1 == (s.size : Int)) = false := by simp; omega
                  have d2 := fun w => idx_str s (i := i + 1) hl2 (z := (i : Int) + 1) (by omega) w
                  have hy2 := HB.out _ (getD_mem (l := X) (i := i + 1) (by rw [HL.out]; exact hl2))
                  rw [HX.out] at d2
                  have hl2' : i + 1 < X.length := by rw [HL.out]; exact hl2
                  have E1 := Lib.hid (fun h3 => UE1.out 92 rfl rfl hl2' h3)
                  have E2 := Lib.hid (fun h3 => UE2.out 92 rfl rfl hl2' h3)
                  clear hl2'
                  generalize X.getD (i + 1) 0 = d at *
                  by_cases hesc : 32 ≤ d ∧ d ≤ 126
                  · have hde : decide (32 ≤ d ∧ d ≤ 126) = true := by simp [hesc]
                    go_wp2_with fail
                    refine (escaped_any d _ hy2.1 hy2.2).mono ?_
                    rintro e w' ⟨rfl, rfl⟩
                    rw [hde]
                    clear hde
                    go_wp2_with (with_reducible refine wpList_push1 rfl (.tmp 64) (.tmp 68) rfl x L rfl H.out.2 d rfl (by omega) ?_)
                    intro v3 w3 L3 F3 l3 M3
                    go_wp2_with fail
                    have HH := Lib.hid (show unq X n = uqL (X.drop (i + 2)) (i + 2) L3 from by rw [F3.out, H.out.1]; exact E1.out hesc)
                    go_roundw
                    case rel => exact ⟨i + 2, v3, L3, by omega, rfl, by go_num, by omega, Lib.hid ⟨HH.out, M3.out⟩⟩
                    case measure => simp [intOf]; omega
                  · have hde : decide (32 ≤ d ∧ d ≤ 126) = false := by simp only [decide_eq_false_iff_not]; exact hesc
                    go_wp2_with fail
                    refine (escaped_any d _ hy2.1 hy2.2).mono ?_
                    rintro e w' ⟨rfl, rfl⟩
                    rw [hde]
                    clear hde
                    go_wp2_with fail
                    try rw [Exit.noGoto_ret]
                    go_ret3
                    exact ⟨by rw [VN.out _ _ (H.out.1.trans (E2.out hesc))]; rfl, H.out.2.bw⟩
                · have e1 : ((i : Int) + 1 == (s.size : Int)) = true := by simp; omega
                  have E0 := Lib.hid (UE0.out 92 rfl rfl (by rw [HL.out]; omega))
                  have SZ := Lib.hid (show i + 1 = s.size by omega)
                  go_wp2_with fail
                  try rw [Exit.noGoto_ret]
                  go_ret3
                  exact ⟨by rw [VN.out _ _ (H.out.1.trans E0.out), SZ.out]; rfl, H.out.2.bw⟩
              · have b92 : (c == 92) = false := by simp; omega
                go_wp2_with fail
                refine (control_any c _ hx2.1 hx2.2).mono ?_
                rintro e w' ⟨rfl, rfl⟩
                cases hp : isCtl c with
                | true =>
                  have E := Lib.hid (UC.out c rfl h34 h92 hp)
                  clear hp
                  go_wp2_with fail
                  try rw [Exit.noGoto_ret]
                  go_ret3
                  exact ⟨by rw [VN.out _ _ (H.out.1.trans E.out)]; rfl, H.out.2.bw⟩
                | false =>
                  have E := Lib.hid (UP.out c rfl h34 h92 hp)
                  clear hp
                  go_wp2_with (with_reducible refine wpList_push1 rfl (.tmp 64) (.tmp 68) rfl x L rfl H.out.2 c rfl (by omega) ?_)
                  intro v3 w3 L3 F3 l3 M3
                  go_wp2_with fail
                  go_roundw
                  case rel => exact ⟨i + 1, v3, L3, by omega, rfl, by go_num, by omega, Lib.hid ⟨by rw [F3.out, H.out.1]; exact E.out, M3.out⟩⟩
                  case measure => simp [intOf]; omega
          · obtain rfl : i = s.size := by omega
            have E := Lib.hid (U_end (xs := X) (L := L) (i := s.size) (by rw [HL.out]; exact Nat.le_refl _))
            go_wp2_with fail
            try rw [Exit.noGoto_ret]
            go_ret3
            exact ⟨by rw [VN.out _ _ (H.out.1.trans E.out)]; rfl, H.out.2.bw⟩
      · have b34 : (q != 34) = true := by simp; omega
        go_enter Tryz.func145, Tryz.ntmps145
        go_wp2_with fail
        go_step3
        go_wp2_with fail
        try rw [Exit.noGoto_ret]
        go_ret3
        exact ⟨by rw [VN.out _ _ (BAD.out hq)]; rfl, Below.refl _ _⟩
end Go.Proofs.YthfonniieaiocaaGreatDoor
