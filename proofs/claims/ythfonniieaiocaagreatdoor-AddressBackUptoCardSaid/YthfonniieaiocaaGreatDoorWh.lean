/- Plain law: hosts of numbers, of groups and of labels. Contracts: the law's small and group, the reference's decimal. -/
import Derived.Test.YthfonniieaiocaaGreatDoorVc
import Derived.Test.YthfonniieaiocaaGreatDoorYa
import Derived.BigQuiet
set_option linter.unusedVariables false
set_option linter.unusedSimpArgs false
namespace Go.Proofs.YthfonniieaiocaaGreatDoor
open Go.RowKit

end Go.Proofs.YthfonniieaiocaaGreatDoor
namespace Go.Proofs.YthfonniieaiocaaGreatDoor
open Go.RowKit

end Go.Proofs.YthfonniieaiocaaGreatDoor
