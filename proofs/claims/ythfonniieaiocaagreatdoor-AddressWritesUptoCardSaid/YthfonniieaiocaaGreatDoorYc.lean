/- Closed facts on the whole cut: how it was made; its main. -/
import Derived.Test.YthfonniieaiocaaGreatDoorRows
import Derived.KernelRfl
import Derived.SevenTiedAt
set_option linter.unusedVariables false
set_option linter.unusedSimpArgs false
namespace Go.Proofs.YthfonniieaiocaaGreatDoor

theorem makeE : Tryz.checked.prog.make = some .cut := by kernel_rfl
theorem mainE : Tryz.checked.prog.mainIs = some (true, ("61d002e41d092f080d129e64e82ef0400f42d66075ef3d2f237362417f81c6ee" : String).toList) := by kernel_rfl
end Go.Proofs.YthfonniieaiocaaGreatDoor
