/- Contracts: the limit of a session timer, of refresh and of the reference. -/
import Derived.Test.YtcnkjgjimcddiaaGreatDoorEa
import Derived.Lib.MinMax
import Derived.BigQuiet
import Derived.Deep.QuietTactic
import Derived.IntWalk
namespace Go.Proofs.YtcnkjgjimcddiaaGreatDoor
open Go.RowKit

theorem quiet_of_eq {P : Program} {f : FuncId} {args : Array Value} {w : World} {n : Nat} {v : Value}
    (h : Calls P f args (w.drewN n) fun e w' => e = .returned v ∧ w.drewN n = w') : Calls P f args (w.drewN n) fun e w'' => e = .returned v ∧ ∃ m, w'' = w.drewN m :=
  h.mono fun _ _ ⟨he, hm⟩ => ⟨he, n, hm.symm⟩
set_option maxRecDepth 100000 in
set_option maxHeartbeats 1000000 in
theorem limit_any (s t : Int) (o p e : Bool) (w : World) (h0 : 0 ≤ s) (h1 : s ≤ 86400) (h2 : 0 ≤ t) (h3 : t ≤ 1099511627776) : Calls Tryz.prog 31 #[.agg #[.int .i64 s, .bool o, .int .i64 t, .bool p, .bool e]] w fun r w' => r = .returned (.int .i64 (limR s t)) ∧ ∃ q, w' = (w.alloc (.cells #[.int .i64 s, .bool o, .int .i64 t, .bool p, .bool e] 23)).drewN q := by
  go_enter Tryz.func31, Tryz.ntmps31
  go_wp2_with fail
  go_quiet ((go_at_call 33; exact quiet_of_eq (smaller_any _ _ _)))
  go_wp2_with fail
  go_ret
  exact ⟨rfl, _, rfl⟩
end Go.Proofs.YtcnkjgjimcddiaaGreatDoor
