/- Plain: the session timer; contracts of refresh's small functions. -/
import Derived.Test.YtcnkjgjimcddiaaGreatDoorMc
import Derived.Test.YtcnkjgjimcddiaaGreatDoorCc
namespace Go.Proofs.YtcnkjgjimcddiaaGreatDoor
open Go.RowKit

def ivl (n : Int) : Bool := decide (90 ≤ n) && decide (n ≤ 86400)
def tmOK (n : Int) : Bool := decide (0 ≤ n) && decide (n ≤ 1099511627776)
def mayR (s : Int) (o : Bool) (t : Int) (p e : Bool) : Bool := tmOK t && (!(p && (!o || e)) && (if s = 0 then !o && (!p && !e) else ivl s))
def limR (s t : Int) : Int := t + 1000 * s - 1000 * min 32 (s / 3)
def nextR (s : Int) (o : Bool) (t : Int) (p : Bool) : Int := if o && !p then t + 500 * s else limR s t
theorem mayR_ranges {s t : Int} {o p e : Bool} (h : mayR s o t p e = true) : 0 ≤ t ∧ t ≤ 1099511627776 ∧ 0 ≤ s ∧ s ≤ 86400 := by
  unfold mayR tmOK ivl at h
  split at h <;> simp at h <;> omega
theorem ret_i64 {a b : Int} (h : a = b) : Ending.returned (.int .i64 a) = .returned (.int .i64 b) := by rw [h]
theorem isivl_any (n : Int) (w : World) : Calls Tryz.prog 25 #[.int .i64 n] w fun e w' => e = .returned (.bool (ivl n)) ∧ w = w' := by
  go_enter Tryz.func25, Tryz.ntmps25
  go_wp2_with fail
  all_goals go_ret
  all_goals exact ⟨ret_bool (by unfold ivl; first | (simp [*]; done) | (simp [*]; omega)), rfl⟩
theorem istime_any (n : Int) (w : World) : Calls Tryz.prog 26 #[.int .i64 n] w fun e w' => e = .returned (.bool (tmOK n)) ∧ w = w' := by
  go_enter Tryz.func26, Tryz.ntmps26
  go_wp2_with fail
  all_goals go_ret
  all_goals exact ⟨ret_bool (by unfold tmOK; first | (simp [*]; done) | (simp [*]; omega)), rfl⟩
theorem smaller_any (a b : Int) (w : World) : Calls Tryz.prog 33 #[.int .i64 a, .int .i64 b] w fun e w' => e = .returned (.int .i64 (min a b)) ∧ w = w' := by
  go_enter Tryz.func33, Tryz.ntmps33
  go_wp2_with fail
  all_goals go_ret
  all_goals exact ⟨ret_i64 (by omega), rfl⟩
end Go.Proofs.YtcnkjgjimcddiaaGreatDoor
