/- Contracts: the reference's index, display. Contract: the reference's display of words. -/
import Derived.Test.YthfonniieaiocaaGreatDoorWf
import Derived.Test.YthfonniieaiocaaGreatDoorCr
import Derived.Test.YthfonniieaiocaaGreatDoorLl
set_option linter.unusedVariables false
set_option linter.unusedSimpArgs false
namespace Go.Proofs.YthfonniieaiocaaGreatDoor
open Go.RowKit

end Go.Proofs.YthfonniieaiocaaGreatDoor
namespace Go.Proofs.YthfonniieaiocaaGreatDoor
open Go.RowKit

theorem str_append (a b : List Int) : strOfNums a ++ strOfNums b = strOfNums (a ++ b) := by
  unfold strOfNums
  simp [ByteArray.ext_iff]
end Go.Proofs.YthfonniieaiocaaGreatDoor
