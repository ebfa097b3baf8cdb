/- Contracts: the reference's hex, escape, Escape, Unescape. Contracts: the reference's pieces, label, number, group. Contracts: the reference's number, group, groups. Contract: the reference's groups. Contracts: the reference's six, Host. Contract: the reference's Host. -/
import Derived.Test.YthfonniieaiocaaGreatDoorWf
import Derived.Test.YthfonniieaiocaaGreatDoorVa
import Derived.Test.YthfonniieaiocaaGreatDoorUt
set_option linter.unusedVariables false
set_option linter.unusedSimpArgs false
namespace Go.Proofs.YthfonniieaiocaaGreatDoor
open Go.RowKit

end Go.Proofs.YthfonniieaiocaaGreatDoor
namespace Go.Proofs.YthfonniieaiocaaGreatDoor
open Go.RowKit

end Go.Proofs.YthfonniieaiocaaGreatDoor
namespace Go.Proofs.YthfonniieaiocaaGreatDoor
open Go.RowKit

end Go.Proofs.YthfonniieaiocaaGreatDoor
namespace Go.Proofs.YthfonniieaiocaaGreatDoor
open Go.RowKit

end Go.Proofs.YthfonniieaiocaaGreatDoor
namespace Go.Proofs.YthfonniieaiocaaGreatDoor
open Go.RowKit

def SixP (X : List Int) (e : Ending) : Prop := match rsixL X with
  | some y => e = .returned (.tuple #[.string (strOfNums y), .bool true])
  | none => ∃ t : ByteArray, e = .returned (.tuple #[.string t, .bool false])
theorem SixP.no {X : List Int} {t : ByteArray} (h : rsixL X = none) : SixP X (.returned (.tuple #[.string t, .bool false])) := by unfold SixP; rw [h]; exact ⟨_, rfl⟩
end Go.Proofs.YthfonniieaiocaaGreatDoor
namespace Go.Proofs.YthfonniieaiocaaGreatDoor
open Go.RowKit

end Go.Proofs.YthfonniieaiocaaGreatDoor
