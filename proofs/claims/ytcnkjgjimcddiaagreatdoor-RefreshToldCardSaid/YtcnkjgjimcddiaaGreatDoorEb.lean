/- Contracts: refresh's May, limit, next, Next, Fire, Done, Start, and the reference's. -/
import Derived.Test.YtcnkjgjimcddiaaGreatDoorEa
namespace Go.Proofs.YtcnkjgjimcddiaaGreatDoor
open Go.RowKit

set_option maxRecDepth 100000 in
set_option maxHeartbeats 4000000 in
theorem mayt_any (s t : Int) (o p e : Bool) (w : World) : Calls Tryz.prog 14 #[.agg #[.int .i64 s, .bool o, .int .i64 t, .bool p, .bool e]] w fun r w' => r = .returned (.bool (mayR s o t p e)) ∧ w' = w.alloc (.cells #[.int .i64 s, .bool o, .int .i64 t, .bool p, .bool e] 23) := by
  cases ht : tmOK t <;> cases hi : ivl s <;> cases hs : (s == 0) <;> cases p <;> cases o <;> cases e
  all_goals
    have HT := Lib.hid ht; have HI := Lib.hid hi; have HS := Lib.hid hs
    clear ht hi
    go_enter Tryz.func14, Tryz.ntmps14
    go_wp2_with (first
      | (go_at_call 26; refine (istime_any _ _).mono ?_; rintro e w' ⟨rfl, rfl⟩; rw [HT.out])
      | (go_at_call 25; refine (isivl_any _ _).mono ?_; rintro e w' ⟨rfl, rfl⟩; rw [HI.out]))
    all_goals go_ret
    all_goals exact ⟨ret_bool (by have a := HT.out; have b := HI.out; have c := HS.out; simp only [beq_iff_eq, beq_eq_false_iff_ne] at c; simp [mayR, a, b, c]), rfl⟩
end Go.Proofs.YtcnkjgjimcddiaaGreatDoor
