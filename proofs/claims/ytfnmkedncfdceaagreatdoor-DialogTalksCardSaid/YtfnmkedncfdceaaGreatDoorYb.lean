/- Closed facts on the whole cut: it may be entered; its word on lifts. -/
import Derived.Test.YtfnmkedncfdceaaGreatDoorRows
import Derived.KernelRfl
import Derived.SevenTiedAt
set_option linter.unusedVariables false
set_option linter.unusedSimpArgs false
namespace Go.Proofs.YtfnmkedncfdceaaGreatDoor

theorem mayE:Tryz.checked.prog.mayEnter=true:=by kernel_rfl
theorem liftF:Tryz.checked.prog.liftsFinal=false:=by kernel_rfl
end Go.Proofs.YtfnmkedncfdceaaGreatDoor
