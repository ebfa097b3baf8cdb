/- Contracts: lexis.Number, header.Number. -/
import Derived.Test.YtcnkjgjimcddiaaGreatDoorAc
namespace Go.Proofs.YtcnkjgjimcddiaaGreatDoor
open Go.RowKit

theorem valL_le10 {l : List Int} (h : l.all isDig = true) (hl : l.length ≤ 10) : 0 ≤ valL l ∧ valL l ≤ 9999999999 := by
  obtain ⟨h1, h2⟩ := valL_range l h
  have h3 : (10 : Int) ^ l.length ≤ 10 ^ 10 := by exact_mod_cast Nat.pow_le_pow_right (by decide) hl
  exact ⟨h1, by have h4 : (10 : Int) ^ 10 = 10000000000 := by decide
                omega⟩
theorem decnL_len {xs : List Int} (h : xs.length < 1 ∨ 10 < xs.length) : decnL xs = (0, 5) := by
  unfold decnL
  rw [if_pos (by rcases h with h | h; exact .inl h; exact .inr (.inl h))]
theorem decnL_bad {xs : List Int} (h : xs.all isDig = false) : decnL xs = (0, 5) := by
  unfold decnL
  rw [if_pos (.inr (.inr h))]
theorem decnL_big {xs : List Int} (h0 : 1 ≤ xs.length) (h1 : xs.length ≤ 10) (h : xs.all isDig = true) (hb : 2147483647 < valL xs) : decnL xs = (0, 3) := by
  unfold decnL
  rw [if_neg (by rintro (a | a | a); omega; omega; rw [h] at a; cases a), if_pos hb]
theorem decnL_ok {xs : List Int} (h0 : 1 ≤ xs.length) (h1 : xs.length ≤ 10) (h : xs.all isDig = true) (hb : ¬ 2147483647 < valL xs) : decnL xs = (valL xs, 0) := by
  unfold decnL
  rw [if_neg (by rintro (a | a | a); omega; omega; rw [h] at a; cases a), if_neg hb]
def decV (p : Int × Int) : Value := .tuple #[.int .i64 p.1, .int .u8 p.2]
set_option maxRecDepth 100000 in
set_option maxHeartbeats 1000000 in
theorem number_any (s : ByteArray) (w : World) : Calls Tryz.prog 57 #[.string s] w fun e w' => e = .returned (decV (decnL (byteL s))) ∧ w = w' := by
  have HL := Lib.hid (byteL_len s)
  have HB := Lib.hid (byteL_by s)
  have IDX := Lib.hid (fun (i : Nat) (h : i < s.size) (w : World) => idx_str s (i := i) h (z := (i : Int)) rfl w)
  have E0 := Lib.hid (fun h => decnL_len (xs := byteL s) h)
  have E1 := Lib.hid (fun h => decnL_bad (xs := byteL s) h)
  have E2 := Lib.hid (fun h0 h1 h h2 => decnL_big (xs := byteL s) h0 h1 h h2)
  have E3 := Lib.hid (fun h0 h1 h h2 => decnL_ok (xs := byteL s) h0 h1 h h2)
  generalize decnL (byteL s) = D at *
  generalize byteL s = X at *
  by_cases h0 : s.size < 1
  · have hd : decide ((s.size : Int) < 1) = true := by simp; omega
    have E := Lib.hid (E0.out (.inl (by rw [HL.out]; exact h0)))
    go_enter Tryz.func57, Tryz.ntmps57
    go_wp2_with fail
    go_ret2
    exact ⟨by rw [E.out]; rfl, rfl⟩
  · have hd : decide ((s.size : Int) < 1) = false := by simp; omega
    by_cases h1 : 10 < s.size
    · have hd1 : decide ((10 : Int) < (s.size : Int)) = true := by simp; omega
      have E := Lib.hid (E0.out (.inr (by rw [HL.out]; exact h1)))
      go_enter Tryz.func57, Tryz.ntmps57
      go_wp2_with fail
      go_ret2
      exact ⟨by rw [E.out]; rfl, rfl⟩
    · have hd1 : decide ((10 : Int) < (s.size : Int)) = false := by simp; omega
      have s1 : 1 ≤ s.size := by omega
      have s10 : s.size ≤ 10 := by omega
      go_enter Tryz.func57, Tryz.ntmps57
      go_wp2_with fail
      clear hd hd1 h0 h1 E0
      go_loop [4, 16] (fun vn vi => ∃ k : Nat, k ≤ s.size ∧ vi = .int .i64 k ∧ ∃ m : Int, vn = .int .i64 m ∧ 0 ≤ m ∧ m ≤ 9999999999 ∧ Hid (m = valL (X.take k) ∧ (X.take k).all isDig = true)) (fun vn vi => s.size - (intOf vi).toNat)
      case atStart => exact ⟨0, Nat.zero_le _, rfl, 0, rfl, by decide, by decide, Lib.hid ⟨rfl, rfl⟩⟩
      case round =>
        obtain ⟨k, hk, rfl, m, rfl, m0, m1, HK⟩ := hrel
        by_cases hlt : k < s.size
        · have hd : decide ((k : Int) < (s.size : Int)) = true := by simp; omega
          have dx := IDX.out k hlt
          have hkX : k < X.length := by rw [HL.out]; exact hlt
          have hx := HB.out _ (getD_mem hkX)
          have BAD := Lib.hid (fun h => E1.out (all_no (p := isDig) hkX h))
          have NXT := Lib.hid (fun (h : isDig (X.getD k 0) = true) => show (10 * m + (X.getD k 0 - 48)) = valL (X.take (k + 1)) ∧ (X.take (k + 1)).all isDig = true by
            rw [all_take_succ hkX, HK.out.2, h, take_snocI X hkX, valL_snoc, ← HK.out.1]
            exact ⟨rfl, rfl⟩)
          have NL := Lib.hid (show (X.take (k + 1)).length ≤ 10 by rw [List.length_take]; omega)
          clear hkX
          generalize X.getD k 0 = x at *
          by_cases h48 : x < 48
          · have d1 : decide (x < 48) = true := by simp [h48]
            have E := Lib.hid (BAD.out (by unfold isDig; simp; omega))
            go_wp2_with fail
            go_ret2
            exact ⟨by rw [E.out]; rfl, rfl⟩
          · have d1 : decide (x < 48) = false := by simpa using h48
            by_cases h57 : 57 < x
            · have d2 : decide (57 < x) = true := by simp [h57]
              have E := Lib.hid (BAD.out (by unfold isDig; simp; omega))
              go_wp2_with fail
              go_ret2
              exact ⟨by rw [E.out]; rfl, rfl⟩
            · have d2 : decide (57 < x) = false := by simpa using h57
              have x0 : 48 ≤ x := by omega
              have x1 : x ≤ 57 := by omega
              have N := NXT.out (by unfold isDig; simp; omega)
              have NB := valL_le10 N.2 NL.out
              rw [← N.1] at NB
              have NH := Lib.hid N
              obtain ⟨b0, b1⟩ := NB
              clear h48 h57 hx N BAD NXT NL
              go_wp2_with fail
              go_roundw
              case rel => exact ⟨k + 1, by omega, by go_num, 10 * m + (x - 48), by go_num, b0, b1, NH⟩
              case measure => simp [intOf]; omega
        · obtain rfl : k = s.size := by omega
          have TK : X.take s.size = X := List.take_of_length_le (by rw [HL.out]; exact Nat.le_refl _)
          rw [TK] at HK
          clear IDX HB E1
          by_cases hb : 2147483647 < m
          · have d1 : decide (2147483647 < m) = true := by simp [hb]
            have E := Lib.hid (E2.out (by rw [HL.out]; exact s1) (by rw [HL.out]; exact s10) HK.out.2 (by rw [← HK.out.1]; exact hb))
            go_wp2_with fail
            go_ret2
            exact ⟨by rw [E.out]; rfl, rfl⟩
          · have d1 : decide (2147483647 < m) = false := by simpa using hb
            have E := Lib.hid (E3.out (by rw [HL.out]; exact s1) (by rw [HL.out]; exact s10) HK.out.2 (by rw [← HK.out.1]; omega))
            rw [← HK.out.1] at E
            have hb2 : m ≤ 2147483647 := by omega
            clear hb
            go_wp2_with fail
            go_ret2
            exact ⟨by rw [E.out]; rfl, rfl⟩
theorem hdnumber_any (s : ByteArray) (w : World) (hs : s.size ≤ 4000000) : Calls Tryz.prog 44 #[.string s] w fun e w' => e = .returned (decV (decnL (trimB (byteL s)))) ∧ Below w.heap.size w w' := by
  have HB := Lib.hid (byteL_str ((byteL_by s).sub (trimB_sub (byteL s))))
  go_enter Tryz.func44, Tryz.ntmps44
  go_wp2_with fail
  refine (hdtrim_any s _ hs).mono ?_
  rintro e w1 ⟨rfl, hb⟩
  have B := Lib.hid hb
  clear hb
  go_wp2_with fail
  have HD := Lib.hid (show decV (decnL (trimB (byteL s))) = decV (decnL (trimB (byteL s))) from rfl)
  have N := number_any (strOfNums (trimB (byteL s))) w1
  rw [HB.out] at N
  obtain ⟨D, hD⟩ : ∃ D, decnL (trimB (byteL s)) = D := ⟨_, rfl⟩
  rw [hD] at N
  have HD2 := Lib.hid hD
  clear hD HD
  refine N.mono ?_
  rintro e w' ⟨rfl, rfl⟩
  obtain ⟨d1, d2⟩ := D
  clear N
  rw [show decV (d1, d2) = .tuple #[.int .i64 d1, .int .u8 d2] from rfl]
  go_wp2_with fail
  go_ret2
  exact ⟨by rw [HD2.out]; rfl, B.out⟩
end Go.Proofs.YtcnkjgjimcddiaaGreatDoor
