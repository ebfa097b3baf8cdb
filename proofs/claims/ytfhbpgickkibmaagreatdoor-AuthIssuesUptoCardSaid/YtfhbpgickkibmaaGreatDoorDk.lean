/- Contracts: the reference 07's quality, count, digits. -/
import Derived.Test.YtfhbpgickkibmaaGreatDoorDj
import Derived.Test.YtfhbpgickkibmaaGreatDoorPj
namespace Go.Proofs.YtfhbpgickkibmaaGreatDoor
open Go.RowKit

theorem refquality_any (b : Bool) (w : World) : Calls Tryz.prog 52 #[.bool b] w fun e w' => e = .returned (.string (strOfNums (QUAL b))) ∧ w = w' := by
  go_enter Tryz.func52, Tryz.ntmps52
  cases b
  · go_wp2
    go_ret
    exact ⟨rfl, rfl⟩
  · go_wp2
    go_ret
    exact ⟨rfl, rfl⟩
theorem ret_int {a b : Int} (h : a = b) : Ending.returned (.int .i64 a) = .returned (.int .i64 b) := by rw [h]
set_option maxRecDepth 100000 in
theorem refcount_any (s : ByteArray) (w : World) (hs : s.size ≤ 4000000) : Calls Tryz.prog 45 #[.string s] w fun e w' => e = .returned (.int .i64 (countR (byteL s))) ∧ w = w' := by
  have HB := Lib.hid (byteL_by s)
  have HL := Lib.hid (byteL_len s)
  have CE := Lib.hid (show countR (byteL s) = if (byteL s).length = 8 ∧ (byteL s).all digOk = true then hexN (byteL s) else -1 from rfl)
  have IDX := Lib.hid (fun (j : Nat) (hj : j < s.size) (w : World) => idx_str s (i := j) hj (z := (j : Int)) rfl w)
  generalize countR (byteL s) = CR at *
  generalize byteL s = X at *
  go_enter Tryz.func45, Tryz.ntmps45
  go_wp2_with fail
  go_loop [3, 4] (fun v3 v4 => ∃ (i : Nat) (n : Int), i ≤ s.size ∧ i ≤ 8 ∧ v3 = .int .i64 n ∧ v4 = .int .i64 i ∧ 0 ≤ n ∧ n < 4294967296 ∧ Hid (n = hexN (X.take i) ∧ ∀ j, j < i → digOk (X.getD j 0) = true)) (fun _ v => s.size - (intOf v).toNat)
  case atStart => exact ⟨0, 0, Nat.zero_le _, Nat.zero_le _, rfl, rfl, Int.le_refl 0, by decide, Lib.hid ⟨rfl, fun j hj => absurd hj (by omega)⟩⟩
  case round =>
    obtain ⟨i, n, hi, hi8, rfl, rfl, hn0, hn1, H⟩ := hrel
    by_cases hlt : i < s.size
    · have hd : decide (i < s.size) = true := by simp [hlt]
      have d1 := IDX.out i hlt
      have hx := HB.out _ (getD_mem (l := X) (i := i) (by rw [HL.out]; exact hlt))
      have BAD := Lib.hid (fun (h : digOk (X.getD i 0) = false) => show CR = -1 by
        rw [CE.out, if_neg]
        rintro ⟨_, h2⟩
        rw [all_drop h (by rw [HL.out]; exact hlt)] at h2
        cases h2)
      have LONG := Lib.hid (fun (h : i = 8) => show CR = -1 by
        rw [CE.out, if_neg]
        rintro ⟨h2, _⟩
        rw [HL.out] at h2
        omega)
      have NX := Lib.hid (fun (h : digOk (X.getD i 0) = true) => show hexN (X.take (i + 1)) = 16 * n + digV (X.getD i 0) ∧ ∀ j, j < i + 1 → digOk (X.getD j 0) = true from ⟨by rw [take_snocI X (by rw [HL.out]; exact hlt), hexN_snoc, ← H.out.1], fun j hj => by
        rcases (show j < i ∨ j = i by omega) with h1 | rfl
        · exact H.out.2 j h1
        · exact h⟩)
      have NB := Lib.hid (fun (h8 : i < 8) => show hexN (X.take (i + 1)) < 4294967296 by
        have h5 := (hexN_take X (i + 1) (by rw [HL.out]; exact hlt)).2
        have h6 : (16 : Int) ^ (i + 1) ≤ 4294967296 := by
          rcases (show i = 0 ∨ i = 1 ∨ i = 2 ∨ i = 3 ∨ i = 4 ∨ i = 5 ∨ i = 6 ∨ i = 7 by omega) with rfl | rfl | rfl | rfl | rfl | rfl | rfl | rfl <;> decide
        omega)
      have DV := Lib.hid (show digV (X.getD i 0) = if 48 ≤ X.getD i 0 ∧ X.getD i 0 ≤ 57 then X.getD i 0 - 48 else if 97 ≤ X.getD i 0 ∧ X.getD i 0 ≤ 102 then X.getD i 0 - 87 else if 65 ≤ X.getD i 0 ∧ X.getD i 0 ≤ 70 then X.getD i 0 - 55 else 0 from rfl)
      have DO := Lib.hid (show digOk (X.getD i 0) = (decide (48 ≤ X.getD i 0 ∧ X.getD i 0 ≤ 57) || (decide (97 ≤ X.getD i 0 ∧ X.getD i 0 ≤ 102) || decide (65 ≤ X.getD i 0 ∧ X.getD i 0 ≤ 70))) from rfl)
      generalize digV (X.getD i 0) = dv at *
      generalize digOk (X.getD i 0) = dok at *
      generalize X.getD i 0 = c at *
      have c0 := hx.1
      have c1 := hx.2
      clear hx
      rcases (show c < 48 ∨ (57 < c ∧ c < 65) ∨ (70 < c ∧ c < 97) ∨ 102 < c ∨ (48 ≤ c ∧ c ≤ 57) ∨ (65 ≤ c ∧ c ≤ 70) ∨ (97 ≤ c ∧ c ≤ 102) by omega) with h | h | h | h | h | h | h
      iterate 4
        · have E := Lib.hid (BAD.out (by rw [DO.out]; simp; omega))
          go_wp2_with fail
          go_ret
          exact ⟨by rw [E.out]; rfl, rfl⟩
      all_goals
        have DT := Lib.hid (show dok = true by rw [DO.out]; simp; omega)
        rcases (show i = 8 ∨ i < 8 by omega) with h8 | h8
        · have E := Lib.hid (LONG.out h8)
          have g8 : decide ((8 : Int) ≤ (i : Int)) = true := by simp; omega
          have g9 : decide (8 ≤ i) = true := by simp; omega
          clear h8
          go_wp2_with fail
          go_ret
          exact ⟨by rw [E.out]; rfl, rfl⟩
        · have g8 : decide ((8 : Int) ≤ (i : Int)) = false := by simp; omega
          have g9 : decide (8 ≤ i) = false := by simp; omega
          have DD := Lib.hid (DV.out)
          have h1 := (NX.out DT.out).1
          have h2 := NB.out h8
          have N1 := Lib.hid h1
          have N2 := Lib.hid h2
          clear h1 h2
          go_wp2_with fail
          go_round
          case rel => exact ⟨i + 1, _, by omega, by omega, rfl, by go_num, by omega, by (have e1 := N1.out; have e2 := N2.out; have e3 := DD.out; first | (rw [if_pos (by omega)] at e3; omega) | (rw [if_neg (by omega), if_pos (by omega)] at e3; omega) | (rw [if_neg (by omega), if_neg (by omega), if_pos (by omega)] at e3; omega)), Lib.hid ⟨by (have e1 := N1.out; have e3 := DD.out; first | (rw [if_pos (by omega)] at e3; omega) | (rw [if_neg (by omega), if_pos (by omega)] at e3; omega) | (rw [if_neg (by omega), if_neg (by omega), if_pos (by omega)] at e3; omega)), (NX.out DT.out).2⟩⟩
          case measure => simp [intOf]; omega
    · obtain rfl : i = s.size := by omega
      have OKK := Lib.hid (show X.all digOk = true by
        rw [List.all_eq_true]
        intro x hx
        obtain ⟨j, hj, rfl⟩ := List.getElem_of_mem hx
        have h1 := H.out.2 j (by rw [HL.out] at hj; exact hj)
        rwa [List.getD_eq_getElem?_getD, List.getElem?_eq_getElem hj] at h1)
      have NN := Lib.hid (show n = hexN X by rw [H.out.1, List.take_of_length_le (by rw [HL.out]; exact Nat.le_refl _)])
      by_cases h8 : s.size = 8
      · have E := Lib.hid (show CR = n by rw [CE.out, if_pos ⟨by rw [HL.out]; exact h8, OKK.out⟩, NN.out])
        have g8 : ((s.size : Int) != 8) = false := by simp only [bne_eq_false_iff_eq]; omega
        clear h8
        go_wp2_with fail
        go_ret
        exact ⟨by rw [E.out]; rfl, rfl⟩
      · have E := Lib.hid (show CR = -1 by rw [CE.out, if_neg (fun h => h8 (by rw [← HL.out]; exact h.1))])
        have g8 : ((s.size : Int) != 8) = true := by simp only [bne_iff_ne]; omega
        clear h8
        go_wp2_with fail
        go_ret
        exact ⟨by rw [E.out]; rfl, rfl⟩
theorem dig_sub (m : Nat) (h : m < 16) : ((⟨#[48, 49, 50, 51, 52, 53, 54, 55, 56, 57, 97, 98, 99, 100, 101, 102]⟩ : ByteArray).extract m (m + 1)) = strOfNums [hexC m] := by
  have h2 : ∀ k : Fin 16, ((⟨#[48, 49, 50, 51, 52, 53, 54, 55, 56, 57, 97, 98, 99, 100, 101, 102]⟩ : ByteArray).extract k.val (k.val + 1)) = strOfNums [hexC k.val] := by decide +kernel
  exact h2 ⟨m, h⟩
theorem digB_len (k : Int) : ∀ n, (digB k n).length = n
  | 0 => rfl
  | n + 1 => by unfold digB; rw [List.length_cons, digB_len k n]
set_option maxRecDepth 100000 in
theorem digits_any (k : Int) (w : World) (h0 : 0 ≤ k) (h1 : k ≤ 4294967295) : Calls Tryz.prog 53 #[.int .i64 k] w fun e w' => e = .returned (.string (strOfNums (hex8 k))) ∧ w = w' := by
  have H8 := Lib.hid (digB_8 k)
  go_enter Tryz.func53, Tryz.ntmps53
  go_wp2_with fail
  go_loop [3, 4, 5] (fun v3 v4 v5 => ∃ (i : Nat) (x : Nat) (t : ByteArray), i ≤ 8 ∧ v3 = .int .u32 (x : Int) ∧ v4 = .string t ∧ v5 = .int .i64 i ∧ x ≤ 4294967295 ∧ t.size ≤ 8 ∧ Hid ((x : Int) = k / 16 ^ i ∧ t = strOfNums (digB k i) ∧ t.size = i)) (fun _ _ v => 8 - (intOf v).toNat)
  case atStart => exact ⟨0, k.toNat, ⟨#[]⟩, Nat.zero_le _, by rw [Int.toNat_of_nonneg h0], rfl, rfl, by omega, Nat.zero_le _, Lib.hid ⟨by rw [Int.toNat_of_nonneg h0]; simp, rfl, rfl⟩⟩
  case round =>
    obtain ⟨i, x, t, hi, rfl, rfl, rfl, hx, ht, H⟩ := hrel
    by_cases hlt : i < 8
    · have hd : decide (i < 8) = true := by simp [hlt]
      have hd1 : decide ((i : Int) < 8) = true := by simp; omega
      obtain ⟨m, hm⟩ : ∃ m, x % 16 = m := ⟨_, rfl⟩
      obtain ⟨q, hq⟩ : ∃ q, x / 16 = q := ⟨_, rfl⟩
      have ml : m < 16 := by omega
      have DS := Lib.hid (dig_sub m ml)
      have mm : (x : Int) % 16 = (m : Int) := by omega
      have md : (x : Int) / 16 = (q : Int) := by omega
      have HM := Lib.hid hm
      have HQ := Lib.hid hq
      clear hm hq
      go_wp2_with fail
      have MK := Lib.hid (show k / 16 ^ i % 16 = (m : Int) by rw [← H.out.1]; exact mm)
      have QK := Lib.hid (show (q : Int) = k / 16 ^ (i + 1) by rw [← md, H.out.1, Int.pow_succ, Int.ediv_ediv, if_neg (fun h => absurd h.1 (Int.not_lt.2 (Int.le_of_lt (Int.pow_pos (by decide))))), Int.sub_zero])
      have TK := Lib.hid (show (⟨#[48, 49, 50, 51, 52, 53, 54, 55, 56, 57, 97, 98, 99, 100, 101, 102]⟩ : ByteArray).extract m (m + 1) ++ t = strOfNums (digB k (i + 1)) by
        rw [DS.out, H.out.2.1, str_app, digB, MK.out]; rfl)
      have SK := Lib.hid (show ((⟨#[48, 49, 50, 51, 52, 53, 54, 55, 56, 57, 97, 98, 99, 100, 101, 102]⟩ : ByteArray).extract m (m + 1) ++ t).size = i + 1 by
        rw [TK.out, num_size, digB_len])
      go_round
      case rel => exact ⟨i + 1, q, _, by omega, rfl, rfl, by go_num, by (have h5 := HQ.out; omega), by rw [SK.out]; omega, Lib.hid ⟨QK.out, TK.out, SK.out⟩⟩
      case measure => simp [intOf]; omega
    · obtain rfl : i = 8 := by omega
      have E := Lib.hid (show t = strOfNums (hex8 k) by rw [H.out.2.1, H8.out])
      go_wp2_with fail
      go_ret
      exact ⟨by rw [← E.out]; rfl, rfl⟩
end Go.Proofs.YtfhbpgickkibmaaGreatDoor
