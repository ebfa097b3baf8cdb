/- The law RefreshSteps. -/
import Derived.Test.YtcnkjgjimcddiaaGreatDoorEr
import Derived.Test.YtcnkjgjimcddiaaGreatDoorEh
namespace Go.Proofs.YtcnkjgjimcddiaaGreatDoor
open Go.RowKit

theorem sameR (a c : Int) (b d e : Bool) (w : World) : (Op.equalIn 10000 23 (.agg #[.int .i64 a, .bool b, .int .i64 c, .bool d, .bool e]) (.agg #[.int .i64 a, .bool b, .int .i64 c, .bool d, .bool e])).run Tryz.prog w = .ok true w := by
  have u3 := Tryz.underlying3
  have u4 := Tryz.underlying4
  have a3 := Tryz.isAgg3
  have a4 := Tryz.isAgg4
  have hS : Tryz.prog.underlying 23 = some (.struct (Tryz.prog.fieldsOf 23)) := by kernel_rfl
  have hp : Tryz.prog.stoodInHeld 23 = false := by kernel_rfl
  rw [show (10000 : Nat) = 9999 + 1 from rfl, run_equalIn_agg w 9999 23 _ _ hS hp]
  simp only [Program.fieldsOf, Tryz.underlying23]
  go_simp
end Go.Proofs.YtcnkjgjimcddiaaGreatDoor
