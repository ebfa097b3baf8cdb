/- Contracts of the reference 01: Blank, Control, TokenChar, Blanks, TokenEnd, Token, Trim. -/
import Derived.Test.YtfhbpgickkibmaaGreatDoorCc
import Derived.Test.YtfhbpgickkibmaaGreatDoorPe
namespace Go.Proofs.YtfhbpgickkibmaaGreatDoor
open Go.RowKit

theorem refblank_any (c : Int) (w : World) (h0 : 0 ≤ c) (h1 : c < 256) : Calls Tryz.prog 80 #[.int .u8 c] w fun e w' => e = .returned (.bool (isBlank c)) ∧ w = w' := by
  go_enter Tryz.func80, Tryz.ntmps80
  unfold isBlank
  by_cases hc : c = 32
  · subst hc
    go_wp2
    go_ret
    exact ⟨rfl, rfl⟩
  · have e1 : (c == 32) = false := by simp [hc]
    go_wp2
    go_ret
    exact ⟨ret_bool (by rw [e1]; rfl), rfl⟩
theorem refcontrol_any (c : Int) (w : World) (h0 : 0 ≤ c) (h1 : c < 256) : Calls Tryz.prog 86 #[.int .u8 c] w fun e w' => e = .returned (.bool (isCtl c)) ∧ w = w' := by
  go_enter Tryz.func86, Tryz.ntmps86
  unfold isCtl
  by_cases h2 : c < 32
  · have d2 : decide (c < 32) = true := by simp [h2]
    by_cases hc : c = 9
    · subst hc
      go_wp2
      go_ret
      exact ⟨rfl, rfl⟩
    · have e1 : (c == 9) = false := by simp [hc]
      go_wp2
      go_ret
      exact ⟨ret_bool (by rw [d2, e1]; rfl), rfl⟩
  · have d2 : decide (c < 32) = false := by simp [h2]
    go_wp2
    go_ret
    exact ⟨ret_bool (by first | rfl | (rw [d2]; rfl)), rfl⟩
def TOKS : List Int := [45, 46, 33, 37, 42, 95, 43, 39, 126]
theorem toks_yes : ∀ k : Fin 9, isTok (TOKS.getD k.val 0) = true := by decide +kernel
theorem toks_none {c : Int} (h : ¬ ((97 ≤ c ∧ c ≤ 122) ∨ (65 ≤ c ∧ c ≤ 90) ∨ (48 ≤ c ∧ c ≤ 57))) (hn : ∀ j, j < 9 → TOKS.getD j 0 ≠ c) : isTok c = (c == 96) := by
  have n0 := hn 0 (by omega); have n1 := hn 1 (by omega); have n2 := hn 2 (by omega); have n3 := hn 3 (by omega); have n4 := hn 4 (by omega)
  have n5 := hn 5 (by omega); have n6 := hn 6 (by omega); have n7 := hn 7 (by omega); have n8 := hn 8 (by omega)
  simp [TOKS] at n0 n1 n2 n3 n4 n5 n6 n7 n8
  by_cases h9 : c = 96
  · subst h9; decide
  · rw [show (c == 96) = false by simp [h9], tok_f]
    omega
theorem toks_idx {k : Nat} (hk : k < 9) (w : World) : (Instr.index 9 (.string ⟨#[45, 46, 33, 37, 42, 95, 43, 39, 126]⟩) (.int .i64 k)).run Tryz.prog w = .ok (.int .u8 (TOKS.getD k 0)) w :=
  idx_str ⟨#[45, 46, 33, 37, 42, 95, 43, 39, 126]⟩ (i := k) hk rfl w
set_option maxRecDepth 100000 in
theorem reftok_any (c : Int) (w : World) (h0 : 0 ≤ c) (h1 : c < 256) : Calls Tryz.prog 144 #[.int .u8 c] w fun e w' => e = .returned (.bool (isTok c)) ∧ w = w' := by
  by_cases hT : (97 ≤ c ∧ c ≤ 122) ∨ (65 ≤ c ∧ c ≤ 90) ∨ (48 ≤ c ∧ c ≤ 57)
  · rw [tok_t (by omega)]
    go_enter Tryz.func144, Tryz.ntmps144
    rcases hT with ⟨a, b⟩ | ⟨a, b⟩ | ⟨a, b⟩
    · have d1 : decide (65 ≤ c) = true := by simp; omega
      have d2 : decide (c ≤ 90) = false := by simp; omega
      have d3 : decide (97 ≤ c) = true := by simp [a]
      have d4 : decide (c ≤ 122) = true := by simp [b]
      go_wp2
      go_ret
      exact ⟨rfl, rfl⟩
    · have d1 : decide (65 ≤ c) = true := by simp [a]
      have d2 : decide (c ≤ 90) = true := by simp [b]
      go_wp2
      go_ret
      exact ⟨rfl, rfl⟩
    · have d1 : decide (65 ≤ c) = false := by simp; omega
      have d3 : decide (97 ≤ c) = false := by simp; omega
      have d5 : decide (48 ≤ c) = true := by simp [a]
      have d6 : decide (c ≤ 57) = true := by simp [b]
      go_wp2
      go_ret
      exact ⟨rfl, rfl⟩
  · have TN := Lib.hid (fun h => toks_none hT h)
    rcases (show c < 48 ∨ (57 < c ∧ c < 65) ∨ (90 < c ∧ c < 97) ∨ 122 < c by omega) with h | h | h | h
    all_goals
      clear hT
      go_enter Tryz.func144, Tryz.ntmps144
      go_wp2_with fail
      go_loop [4] (fun v => ∃ k : Nat, k ≤ 9 ∧ v = .int .i64 k ∧ Hid (∀ j, j < k → TOKS.getD j 0 ≠ c)) (fun v => 9 - (intOf v).toNat)
      case atStart => exact ⟨0, by omega, rfl, Lib.hid fun j hj => absurd hj (by omega)⟩
      case round =>
        obtain ⟨k, hk, rfl, H⟩ := hrel
        by_cases hlt : k < 9
        · have d1 := fun w => toks_idx hlt w
          have RA := Lib.hid (toks_yes ⟨k, hlt⟩)
          dsimp only at RA
          have HN := Lib.hid (show TOKS.getD k 0 ≠ c → ∀ j, j < k + 1 → TOKS.getD j 0 ≠ c from fun hne j hj => by
            rcases (show j < k ∨ j = k by omega) with h | rfl
            · exact H.out j h
            · exact hne)
          have hd : decide ((k : Int) < 9) = true := by simp; omega
          generalize TOKS.getD k 0 = y at *
          by_cases hy : y = c
          · subst hy
            go_wp2_with fail
            go_ret
            exact ⟨by rw [RA.out]; rfl, rfl⟩
          · have hb : (y == c) = false := by simpa using hy
            go_wp2_with fail
            go_round
            case rel => exact ⟨k + 1, by omega, by go_num, Lib.hid (HN.out hy)⟩
            case measure => simp [intOf]; omega
        · obtain rfl : k = 9 := by omega
          have RN := Lib.hid (TN.out H.out)
          go_wp2_with fail
          go_ret
          exact ⟨by rw [RN.out]; rfl, rfl⟩
set_option maxRecDepth 100000 in
theorem refblanks_any (s : ByteArray) (z : Int) (w : World) (hz : -9223372036854775808 ≤ z ∧ z < 9223372036854775808) (hs : s.size < 9223372036854775807) :
    Calls Tryz.prog 107 #[.string s, .int .i64 z] w fun e w' => e = .returned (.int .i64 (skipTo isBlank (byteL s) (clip z s.size))) ∧ Below w.heap.size w w' := by
  have CL := Lib.hid (show clip z s.size = min z.toNat s.size from rfl)
  generalize clip z s.size = lo at *
  have HB := Lib.hid (byteL_by s)
  have HL := Lib.hid (byteL_len s)
  generalize hX : byteL s = X at *
  have HX := Lib.hid hX
  clear hX
  go_enter Tryz.func107, Tryz.ntmps107
  go_wp2_with fail
  all_goals go_loopw [5] (fun v wr => SKR w lo s.size isBlank X v wr) (fun v _ => s.size - (intOf v).toNat)
  all_goals try (
    have := CL.out
    exact ⟨lo, Nat.le_refl _, by omega, rfl, by congr 1; omega, 0, rfl⟩)
  all_goals
    obtain ⟨k, hlo, hk, hsk, rfl, q, rfl⟩ := hrel
    have SK := Lib.hid hsk; clear hsk
    by_cases hlt : k < s.size
    · have hd : decide ((k : Int) < (s.size : Int)) = true := by simp; omega
      have d1 := fun w => idx_str s (i := k) hlt (z := (k : Int)) rfl w
      have hx2 := HB.out _ (getD_mem (l := X) (i := k) (by rw [HL.out]; exact hlt))
      rw [HX.out] at d1
      have SY := Lib.hid (fun h => skip_yes (p := isBlank) (xs := X) (i := k) (by rw [HL.out]; exact hlt) h)
      have SN := Lib.hid (fun h => skip_no (p := isBlank) (xs := X) (i := k) (by rw [HL.out]; exact hlt) h)
      generalize X.getD k 0 = x at *
      go_wp2_with fail
      refine (refblank_any x _ hx2.1 hx2.2).mono ?_
      rintro e w' ⟨rfl, rfl⟩
      cases hp : isBlank x with
      | true =>
        go_wp2_with fail
        go_roundw
        case rel => exact ⟨k + 1, by omega, by omega, by rw [SK.out]; exact SY.out hp, by go_num, _, rfl⟩
        case measure => simp [intOf]; omega
      | false =>
        go_wp2_with fail
        go_ret
        exact ⟨by rw [SK.out, SN.out hp]; rfl, below_drewN _ _⟩
    · obtain rfl : k = s.size := by omega
      have hd : decide ((s.size : Int) < (s.size : Int)) = false := by simp
      go_wp2_with fail
      go_ret
      exact ⟨by rw [SK.out, skip_end (by rw [HL.out]; omega)]; rfl, below_drewN _ _⟩
set_option maxRecDepth 100000 in
theorem reftokend_any (s : ByteArray) (z : Int) (w : World) (hz : -9223372036854775808 ≤ z ∧ z < 9223372036854775808) (hs : s.size < 9223372036854775807) :
    Calls Tryz.prog 110 #[.string s, .int .i64 z] w fun e w' => e = .returned (.int .i64 (skipTo isTok (byteL s) (clip z s.size))) ∧ Below w.heap.size w w' := by
  have CL := Lib.hid (show clip z s.size = min z.toNat s.size from rfl)
  generalize clip z s.size = lo at *
  have HB := Lib.hid (byteL_by s)
  have HL := Lib.hid (byteL_len s)
  generalize hX : byteL s = X at *
  have HX := Lib.hid hX
  clear hX
  go_enter Tryz.func110, Tryz.ntmps110
  go_wp2_with fail
  all_goals go_loopw [5] (fun v wr => SKR w lo s.size isTok X v wr) (fun v _ => s.size - (intOf v).toNat)
  all_goals try (
    have := CL.out
    exact ⟨lo, Nat.le_refl _, by omega, rfl, by congr 1; omega, 0, rfl⟩)
  all_goals
    obtain ⟨k, hlo, hk, hsk, rfl, q, rfl⟩ := hrel
    have SK := Lib.hid hsk; clear hsk
    by_cases hlt : k < s.size
    · have hd : decide ((k : Int) < (s.size : Int)) = true := by simp; omega
      have d1 := fun w => idx_str s (i := k) hlt (z := (k : Int)) rfl w
      have hx2 := HB.out _ (getD_mem (l := X) (i := k) (by rw [HL.out]; exact hlt))
      rw [HX.out] at d1
      have SY := Lib.hid (fun h => skip_yes (p := isTok) (xs := X) (i := k) (by rw [HL.out]; exact hlt) h)
      have SN := Lib.hid (fun h => skip_no (p := isTok) (xs := X) (i := k) (by rw [HL.out]; exact hlt) h)
      generalize X.getD k 0 = x at *
      go_wp2_with fail
      refine (reftok_any x _ hx2.1 hx2.2).mono ?_
      rintro e w' ⟨rfl, rfl⟩
      cases hp : isTok x with
      | true =>
        go_wp2_with fail
        go_roundw
        case rel => exact ⟨k + 1, by omega, by omega, by rw [SK.out]; exact SY.out hp, by go_num, _, rfl⟩
        case measure => simp [intOf]; omega
      | false =>
        go_wp2_with fail
        go_ret
        exact ⟨by rw [SK.out, SN.out hp]; rfl, below_drewN _ _⟩
    · obtain rfl : k = s.size := by omega
      have hd : decide ((s.size : Int) < (s.size : Int)) = false := by simp
      go_wp2_with fail
      go_ret
      exact ⟨by rw [SK.out, skip_end (by rw [HL.out]; omega)]; rfl, below_drewN _ _⟩
theorem reftoken_any (s : ByteArray) (w : World) (hs : s.size < 9223372036854775807) :
    Calls Tryz.prog 111 #[.string s] w fun e w' => e = .returned (.bool (isToken (byteL s))) ∧ Below w.heap.size w w' := by
  go_enter Tryz.func111, Tryz.ntmps111
  by_cases h : s = ⟨#[]⟩
  · subst h
    go_wp2
    go_ret
    exact ⟨rfl, Below.refl _ _⟩
  · have hn : ¬ s.toList = [] := fun e => h (toList_nil.1 e)
    have HN := Lib.hid (fun e => h (byteL_nil.1 e))
    clear h
    go_wp2_with fail
    refine (reftokend_any s 0 w (by omega) hs).mono ?_
    rintro e w' ⟨rfl, hb⟩
    have HB := Lib.hid hb; clear hb
    have HL := Lib.hid (byteL_len s)
    go_wp2_with fail
    go_ret
    refine ⟨?_, HB.out⟩
    have hN := HN.out
    have hL := HL.out
    clear HN HL HB
    refine ret_bool ?_
    rw [show clip 0 s.size = 0 from by simp [clip]]
    unfold isToken
    rw [hL, show (byteL s).isEmpty = false from by cases hx : byteL s with
      | nil => exact (hN hx).elim
      | cons _ _ => rfl]
    simp only [Bool.not_false, Bool.true_and]
    rw [Bool.eq_iff_iff]
    simp [hn]
    try omega
theorem ltrim_drop (xs : List Int) : ltrim xs = xs.drop (skipTo isBlank xs 0) := by
  unfold ltrim skipTo
  rw [dropWhile_drop, List.drop_zero, Nat.zero_add]
set_option maxRecDepth 100000 in
theorem reftrim_any (s : ByteArray) (w : World) (hs : s.size ≤ 4000000) :
    Calls Tryz.prog 79 #[.string s] w fun e w' => e = .returned (.string (strOfNums (trimB (byteL s)))) ∧ Below w.heap.size w w' := by
  have KL := skip_le (p := isBlank) (xs := byteL s) (i := 0) (Nat.zero_le _)
  rw [byteL_len] at KL
  have LD := Lib.hid (ltrim_drop (byteL s))
  have TB := Lib.hid (show trimB (byteL s) = rtrim (ltrim (byteL s)) from rfl)
  have SX := Lib.hid (byteL_extract s (skipTo isBlank (byteL s) 0) s.size)
  have HL := Lib.hid (byteL_len s)
  have C0 := Lib.hid (show clip 0 s.size = 0 by simp [clip])
  go_enter Tryz.func79, Tryz.ntmps79
  go_wp2_with fail
  refine (refblanks_any s 0 w (by omega) (by omega)).mono ?_
  rintro e w1 ⟨rfl, hb⟩
  have B1 := Lib.hid hb; clear hb
  rw [C0.out]
  generalize skipTo isBlank (byteL s) 0 = k at *
  go_wp2_with fail
  have HT := Lib.hid (show byteL (s.extract k s.size) = ltrim (byteL s) by
    rw [SX.out, LD.out, List.take_of_length_le (by rw [List.length_drop, HL.out]; exact Nat.le_refl _)])
  have TZ := Lib.hid (byteL_len (s.extract k s.size))
  have ts : (s.extract k s.size).size ≤ 4000000 := by rw [ByteArray.size_extract]; omega
  have te : s.size - k = (s.extract k s.size).size := by rw [ByteArray.size_extract]; omega
  try simp only [te]
  clear te
  generalize s.extract k s.size = t at *
  have TB2 := Lib.hid (byteL_by t)
  clear SX LD C0 KL
  go_loopw [3] (fun v wr => ∃ n : Nat, n ≤ t.size ∧ v = .int .i64 n ∧ w1 = wr ∧ Hid (∀ j, n ≤ j → j < t.size → isBlank ((byteL t).getD j 0) = true)) (fun v _ => (intOf v).toNat)
  case atStart => exact ⟨t.size, Nat.le_refl _, rfl, rfl, Lib.hid fun j h1 h2 => absurd h1 (by omega)⟩
  case round =>
    obtain ⟨n, hn, rfl, rfl, H⟩ := hrel
    have FIN := Lib.hid (show (n = 0 ∨ isBlank ((byteL t).getD (n - 1) 0) = false) → t.extract 0 n = strOfNums (trimB (byteL s)) from fun h => by
      have e := rtrim_take (byteL t) n (by rw [TZ.out]; exact hn) (fun j h1 h2 => H.out j h1 (by rw [TZ.out] at h2; exact h2)) h
      have hb : By (trimB (byteL s)) := by
        rw [TB.out, ← HT.out, e]
        exact fun x hx => TB2.out x (List.mem_of_mem_take hx)
      apply byteL_inj
      rw [byteL_str hb, byteL_extract, TB.out, ← HT.out, e, List.drop_zero, Nat.sub_zero])
    by_cases h0 : n = 0
    · subst h0
      go_wp2_with fail
      go_ret
      exact ⟨by rw [← FIN.out (.inl trivial)]; simp, B1.out⟩
    · have hd : decide ((0 : Int) < (n : Int)) = true := by simp; omega
      have d1 := fun w => idx_str t (i := n - 1) (by omega) (z := (n : Int) - 1) (by omega) w
      have hx2 := TB2.out _ (getD_mem (l := byteL t) (i := n - 1) (by rw [TZ.out]; omega))
      have NX := Lib.hid (show isBlank ((byteL t).getD (n - 1) 0) = true → ∀ j, n - 1 ≤ j → j < t.size → isBlank ((byteL t).getD j 0) = true from fun h j h1 h2 => by
        rcases (show n ≤ j ∨ j = n - 1 by omega) with h3 | rfl
        · exact H.out j h3 h2
        · exact h)
      generalize (byteL t).getD (n - 1) 0 = x at *
      go_wp2_with fail
      refine (refblank_any x _ hx2.1 hx2.2).mono ?_
      rintro e w' ⟨rfl, rfl⟩
      cases hp : isBlank x with
      | true =>
        have PP := Lib.hid hp
        clear hp
        go_wp2_with fail
        go_roundw
        case rel => exact ⟨n - 1, by omega, by congr 1; omega, by trivial, Lib.hid (NX.out PP.out)⟩
        case measure => simp [intOf]; omega
      | false =>
        have PP := Lib.hid hp
        clear hp
        go_wp2_with fail
        go_ret
        exact ⟨by rw [← FIN.out (.inr PP.out)]; rfl, B1.out⟩
end Go.Proofs.YtfhbpgickkibmaaGreatDoor
