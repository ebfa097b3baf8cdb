/- Contracts: the reference's letter, digit, contains, In. -/
import Derived.Test.YthfonniieaiocaaGreatDoorUe
set_option linter.unusedVariables false
set_option linter.unusedSimpArgs false
namespace Go.Proofs.YthfonniieaiocaaGreatDoor
open Go.RowKit

end Go.Proofs.YthfonniieaiocaaGreatDoor
