/- Contract: the reference's reader: user. Contract: the reference's reader: host. Contract: the reference's reader: port. Contract: the reference's reader: telephone. -/
import Derived.Test.YthfonniieaiocaaGreatDoorXl
import Derived.Lib.MinMax
set_option linter.unusedVariables false
set_option linter.unusedSimpArgs false
namespace Go.Proofs.YthfonniieaiocaaGreatDoor
open Go.RowKit

end Go.Proofs.YthfonniieaiocaaGreatDoor
namespace Go.Proofs.YthfonniieaiocaaGreatDoor
open Go.RowKit

end Go.Proofs.YthfonniieaiocaaGreatDoor
namespace Go.Proofs.YthfonniieaiocaaGreatDoor
open Go.RowKit

end Go.Proofs.YthfonniieaiocaaGreatDoor
namespace Go.Proofs.YthfonniieaiocaaGreatDoor
open Go.RowKit

theorem OX.form {w wr : World} {v : Value} {xs : List Int} (H : OX w v xs wr) : ∃ A c, v = .slice A xs.length c := by
  rcases H.o.2 with ⟨h0, h1⟩ | ⟨g, cap, cur, h1, _⟩
  · rw [h1, h0]; exact ⟨_, _, rfl⟩
  · exact ⟨_, _, h1⟩
end Go.Proofs.YthfonniieaiocaaGreatDoor
