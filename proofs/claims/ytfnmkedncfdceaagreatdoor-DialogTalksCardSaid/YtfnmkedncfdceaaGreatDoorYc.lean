/- Closed facts on the whole cut: how it was made; its main. -/
import Derived.Test.YtfnmkedncfdceaaGreatDoorRows
import Derived.KernelRfl
import Derived.SevenTiedAt
set_option linter.unusedVariables false
set_option linter.unusedSimpArgs false
namespace Go.Proofs.YtfnmkedncfdceaaGreatDoor

theorem makeE:Tryz.checked.prog.make=some .cut:=by kernel_rfl
theorem mainE : Tryz.checked.prog.mainIs = some (true, ("5a30a9d73df79acb2ed22f927e245a05f84076631029500d82703babf0e34c9f" : String).toList) := by kernel_rfl
end Go.Proofs.YtfnmkedncfdceaaGreatDoor
