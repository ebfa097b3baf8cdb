/- Contracts: the reference's rest of an address, an address without brackets. And what stands behind it. -/
import Derived.Test.YthfonniieaiocaaGreatDoorXv
import Derived.Test.YthfonniieaiocaaGreatDoorXq
import Derived.Test.YthfonniieaiocaaGreatDoorUx
import Derived.Test.YthfonniieaiocaaGreatDoorWu
set_option linter.unusedVariables false
set_option linter.unusedSimpArgs false
namespace Go.Proofs.YthfonniieaiocaaGreatDoor
open Go.RowKit

end Go.Proofs.YthfonniieaiocaaGreatDoor
