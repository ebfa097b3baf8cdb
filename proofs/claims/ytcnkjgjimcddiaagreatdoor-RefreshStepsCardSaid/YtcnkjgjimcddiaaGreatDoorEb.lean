/- Contracts: refresh's May, limit, next, Next, Fire, Done, Start, and the reference's. -/
import Derived.Test.YtcnkjgjimcddiaaGreatDoorEa
namespace Go.Proofs.YtcnkjgjimcddiaaGreatDoor
open Go.RowKit

set_option maxRecDepth 100000 in
set_option maxHeartbeats 4000000 in
theorem mayt_any (s t : Int) (o p e : Bool) (w : World) : Calls Tryz.prog 14 #[.agg #[.int .i64 s, .bool o, .int .i64 t, .bool p, .bool e]] w fun r w' => r = .returned (.bool (mayR s o t p e)) ∧ w' = w.alloc (.cells #[.int .i64 s, .bool o, .int .i64 t, .bool p, .bool e] 23) := by
  cases ht : tmOK t <;> cases hi : ivl s <;> cases hs : (s == 0) <;> cases p <;> cases o <;> cases e
  all_goals
    have HT := Lib.hid ht; have HI := Lib.hid hi; have HS := Lib.hid hs
    clear ht hi
    go_enter Tryz.func14, Tryz.ntmps14
    go_wp2_with (first
      | (go_at_call 26; refine (istime_any _ _).mono ?_; rintro e w' ⟨rfl, rfl⟩; rw [HT.out])
      | (go_at_call 25; refine (isivl_any _ _).mono ?_; rintro e w' ⟨rfl, rfl⟩; rw [HI.out]))
    all_goals go_ret
    all_goals exact ⟨ret_bool (by have a := HT.out; have b := HI.out; have c := HS.out; simp only [beq_iff_eq, beq_eq_false_iff_ne] at c; simp [mayR, a, b, c]), rfl⟩
theorem from19_any (n a b : Int) (w : World) : Calls Tryz.prog 40 #[.int .i64 n, .int .i64 a, .int .i64 b] w fun e w' => e = .returned (.bool (decide (a ≤ n) && decide (n ≤ b))) ∧ w = w' := by
  go_enter Tryz.func40, Tryz.ntmps40
  go_wp2_with fail
  all_goals go_ret
  all_goals exact ⟨ret_bool (by first | rfl | (simp [*]; done) | (simp [*]; omega)), rfl⟩
theorem refsec_any (n : Int) (w : World) : Calls Tryz.prog 27 #[.int .i64 n] w fun e w' => e = .returned (.bool (n == 0 || ivl n)) ∧ w = w' := by
  cases hs : (n == 0)
  all_goals
    go_enter Tryz.func27, Tryz.ntmps27
    go_wp2_with (go_at_call 40; refine (from19_any _ _ _ _).mono ?_; rintro e w' ⟨rfl, rfl⟩)
    all_goals go_ret
    all_goals exact ⟨rfl, rfl⟩
theorem reftime_any (n : Int) (w : World) : Calls Tryz.prog 28 #[.int .i64 n] w fun e w' => e = .returned (.bool (tmOK n)) ∧ w = w' := by
  go_enter Tryz.func28, Tryz.ntmps28
  go_wp2_with (go_at_call 40; refine (from19_any _ _ _ _).mono ?_; rintro e w' ⟨rfl, rfl⟩)
  all_goals go_ret
  all_goals exact ⟨rfl, rfl⟩
set_option maxRecDepth 100000 in
set_option maxHeartbeats 4000000 in
theorem refmay_any (s t : Int) (o p e : Bool) (w : World) : Calls Tryz.prog 15 #[.agg #[.int .i64 s, .bool o, .int .i64 t, .bool p, .bool e]] w fun r w' => r = .returned (.bool (mayR s o t p e)) ∧ w' = w.alloc (.cells #[.int .i64 s, .bool o, .int .i64 t, .bool p, .bool e] 23) := by
  cases ht : tmOK t <;> cases hi : ivl s <;> cases hs : (s == 0) <;> cases p <;> cases o <;> cases e
  all_goals
    have HT := Lib.hid ht; have HI := Lib.hid hi; have HS := Lib.hid hs
    clear ht hi
    go_enter Tryz.func15, Tryz.ntmps15
    go_wp2_with (first
      | (go_at_call 28; refine (reftime_any _ _).mono ?_; rintro e w' ⟨rfl, rfl⟩; rw [HT.out])
      | (go_at_call 27; refine (refsec_any _ _).mono ?_; rintro e w' ⟨rfl, rfl⟩; rw [HS.out, HI.out]))
    all_goals go_ret
    all_goals exact ⟨ret_bool (by have a := HT.out; have b := HI.out; have c := HS.out; simp only [beq_iff_eq, beq_eq_false_iff_ne] at c; simp [mayR, a, b, c]), rfl⟩
end Go.Proofs.YtcnkjgjimcddiaaGreatDoor
