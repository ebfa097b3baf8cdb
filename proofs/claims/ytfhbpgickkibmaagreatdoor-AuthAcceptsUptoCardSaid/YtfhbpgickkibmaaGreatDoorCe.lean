/- Contracts of the reference 01: Blank, Control, TokenChar, Blanks, TokenEnd, Token, Trim. -/
import Derived.Test.YtfhbpgickkibmaaGreatDoorCc
import Derived.Test.YtfhbpgickkibmaaGreatDoorPe
namespace Go.Proofs.YtfhbpgickkibmaaGreatDoor
open Go.RowKit

theorem refcontrol_any (c : Int) (w : World) (h0 : 0 ≤ c) (h1 : c < 256) : Calls Tryz.prog 86 #[.int .u8 c] w fun e w' => e = .returned (.bool (isCtl c)) ∧ w = w' := by
  go_enter Tryz.func86, Tryz.ntmps86
  unfold isCtl
  by_cases h2 : c < 32
  · have d2 : decide (c < 32) = true := by simp [h2]
    by_cases hc : c = 9
    · subst hc
      go_wp2
      go_ret
      exact ⟨rfl, rfl⟩
    · have e1 : (c == 9) = false := by simp [hc]
      go_wp2
      go_ret
      exact ⟨ret_bool (by rw [d2, e1]; rfl), rfl⟩
  · have d2 : decide (c < 32) = false := by simp [h2]
    go_wp2
    go_ret
    exact ⟨ret_bool (by first | rfl | (rw [d2]; rfl)), rfl⟩
def TOKS : List Int := [45, 46, 33, 37, 42, 95, 43, 39, 126]
end Go.Proofs.YtfhbpgickkibmaaGreatDoor
