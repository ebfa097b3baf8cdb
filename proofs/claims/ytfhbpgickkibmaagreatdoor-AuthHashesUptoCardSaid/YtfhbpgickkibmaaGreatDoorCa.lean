/- Contracts of lexis: the classes of characters. -/
import Derived.Test.YtfhbpgickkibmaaGreatDoorPe
import Derived.Test.YtfhbpgickkibmaaGreatDoorRows
import Derived.WalkKit
import Derived.WalkSpells
import Derived.WalkLawsBesides
import Derived.Lib.Hide
import Derived.Deep.QuietTactic
import Derived.BigQuiet
namespace Go.Proofs.YtfhbpgickkibmaaGreatDoor
open Go.RowKit

theorem ret_bool {a b : Bool} (h : a = b) : Ending.returned (.bool a) = .returned (.bool b) := by rw [h]
theorem blank_any (c : Int) (w : World) (h0 : 0 ≤ c) (h1 : c < 256) : Calls Tryz.prog 101 #[.int .u8 c] w fun e w' => e = .returned (.bool (isBlank c)) ∧ w = w' := by
  go_enter Tryz.func101, Tryz.ntmps101
  unfold isBlank
  by_cases hc : c = 32
  · subst hc
    go_wp2
    go_ret
    exact ⟨rfl, rfl⟩
  · have e1 : (c == 32) = false := by simp [hc]
    go_wp2
    go_ret
    exact ⟨ret_bool (by rw [e1]; rfl), rfl⟩
theorem control_any (c : Int) (w : World) (h0 : 0 ≤ c) (h1 : c < 256) : Calls Tryz.prog 113 #[.int .u8 c] w fun e w' => e = .returned (.bool (isCtl c)) ∧ w = w' := by
  go_enter Tryz.func113, Tryz.ntmps113
  unfold isCtl
  by_cases h2 : c < 32
  · have d2 : decide (c < 32) = true := by simp [h2]
    by_cases hc : c = 9
    · subst hc
      go_wp2
      go_ret
      exact ⟨rfl, rfl⟩
    · have e1 : (c == 9) = false := by simp [hc]
      go_wp2
      go_ret
      exact ⟨ret_bool (by rw [d2, e1]; rfl), rfl⟩
  · have d2 : decide (c < 32) = false := by simp [h2]
    go_wp2
    go_ret
    exact ⟨ret_bool (by first | rfl | (rw [d2]; rfl)), rfl⟩
theorem escaped_any (c : Int) (w : World) (h0 : 0 ≤ c) (h1 : c < 256) : Calls Tryz.prog 138 #[.int .u8 c] w fun e w' => e = .returned (.bool (decide (32 ≤ c ∧ c ≤ 126))) ∧ w = w' := by
  go_enter Tryz.func138, Tryz.ntmps138
  by_cases h2 : 32 ≤ c
  · have d2 : decide (32 ≤ c) = true := by simp [h2]
    go_wp2
    go_ret
    exact ⟨ret_bool (by simp [h2]), rfl⟩
  · have d2 : decide (32 ≤ c) = false := by simp [h2]
    go_wp2
    go_ret
    exact ⟨ret_bool (by simp [h2]), rfl⟩
theorem tok_t {c : Int} (h : (97 ≤ c ∧ c ≤ 122) ∨ (65 ≤ c ∧ c ≤ 90) ∨ (48 ≤ c ∧ c ≤ 57) ∨ c = 45 ∨ c = 46 ∨ c = 33 ∨ c = 37 ∨ c = 42 ∨ c = 95 ∨ c = 43 ∨ c = 39 ∨ c = 126 ∨ c = 96) : isTok c = true := by
  unfold isTok
  simp only [Bool.or_eq_true, Bool.and_eq_true, decide_eq_true_eq, beq_iff_eq]
  exact h
theorem tok_f {c : Int} (h : ¬ ((97 ≤ c ∧ c ≤ 122) ∨ (65 ≤ c ∧ c ≤ 90) ∨ (48 ≤ c ∧ c ≤ 57) ∨ c = 45 ∨ c = 46 ∨ c = 33 ∨ c = 37 ∨ c = 42 ∨ c = 95 ∨ c = 43 ∨ c = 39 ∨ c = 126 ∨ c = 96)) : isTok c = false := by
  cases e : isTok c with
  | false => rfl
  | true =>
    unfold isTok at e
    simp only [Bool.or_eq_true, Bool.and_eq_true, decide_eq_true_eq, beq_iff_eq] at e
    exact absurd e h
theorem token_any (c : Int) (w : World) (h0 : 0 ≤ c) (h1 : c < 256) : Calls Tryz.prog 141 #[.int .u8 c] w fun e w' => e = .returned (.bool (isTok c)) ∧ w = w' := by
  by_cases hT : (97 ≤ c ∧ c ≤ 122) ∨ (65 ≤ c ∧ c ≤ 90) ∨ (48 ≤ c ∧ c ≤ 57) ∨ c = 45 ∨ c = 46 ∨ c = 33 ∨ c = 37 ∨ c = 42 ∨ c = 95 ∨ c = 43 ∨ c = 39 ∨ c = 126 ∨ c = 96
  · rw [tok_t hT]
    go_enter Tryz.func141, Tryz.ntmps141
    rcases hT with ⟨a, b⟩ | ⟨a, b⟩ | ⟨a, b⟩ | rfl | rfl | rfl | rfl | rfl | rfl | rfl | rfl | rfl | rfl
    · have d1 : decide (97 ≤ c) = true := by simp [a]
      have d2 : decide (c ≤ 122) = true := by simp [b]
      go_wp2
      go_ret
      exact ⟨rfl, rfl⟩
    · have d1 : decide (97 ≤ c) = false := by simp; omega
      have d2 : decide (65 ≤ c) = true := by simp [a]
      have d3 : decide (c ≤ 90) = true := by simp [b]
      go_wp2
      go_ret
      exact ⟨rfl, rfl⟩
    · have d1 : decide (97 ≤ c) = false := by simp; omega
      have d2 : decide (65 ≤ c) = false := by simp; omega
      have d3 : decide (48 ≤ c) = true := by simp [a]
      have d4 : decide (c ≤ 57) = true := by simp [b]
      go_wp2
      go_ret
      exact ⟨rfl, rfl⟩
    all_goals
      go_wp2
      go_ret
      exact ⟨rfl, rfl⟩
  · rw [tok_f hT]
    go_enter Tryz.func141, Tryz.ntmps141
    have n1 : (c == 45) = false := by simp; omega
    have n2 : (c == 46) = false := by simp; omega
    have n3 : (c == 33) = false := by simp; omega
    have n4 : (c == 37) = false := by simp; omega
    have n5 : (c == 42) = false := by simp; omega
    have n6 : (c == 95) = false := by simp; omega
    have n7 : (c == 43) = false := by simp; omega
    have n8 : (c == 39) = false := by simp; omega
    have n9 : (c == 126) = false := by simp; omega
    have n0 : (c == 96) = false := by simp; omega
    by_cases a : 97 ≤ c
    · have d1 : decide (97 ≤ c) = true := by simp [a]
      have d2 : decide (c ≤ 122) = false := by simp; omega
      have d3 : decide (65 ≤ c) = true := by simp; omega
      have d4 : decide (c ≤ 90) = false := by simp; omega
      have d5 : decide (48 ≤ c) = true := by simp; omega
      have d6 : decide (c ≤ 57) = false := by simp; omega
      go_wp2
      go_ret
      exact ⟨rfl, rfl⟩
    · have d1 : decide (97 ≤ c) = false := by simp [a]
      by_cases b : 65 ≤ c
      · have d3 : decide (65 ≤ c) = true := by simp [b]
        have d4 : decide (c ≤ 90) = false := by simp; omega
        have d5 : decide (48 ≤ c) = true := by simp; omega
        have d6 : decide (c ≤ 57) = false := by simp; omega
        go_wp2
        go_ret
        exact ⟨rfl, rfl⟩
      · have d3 : decide (65 ≤ c) = false := by simp [b]
        by_cases b : 48 ≤ c
        · have d5 : decide (48 ≤ c) = true := by simp [b]
          have d6 : decide (c ≤ 57) = false := by simp; omega
          go_wp2
          go_ret
          exact ⟨rfl, rfl⟩
        · have d5 : decide (48 ≤ c) = false := by simp [b]
          go_wp2
          go_ret
          exact ⟨rfl, rfl⟩
end Go.Proofs.YtfhbpgickkibmaaGreatDoor
