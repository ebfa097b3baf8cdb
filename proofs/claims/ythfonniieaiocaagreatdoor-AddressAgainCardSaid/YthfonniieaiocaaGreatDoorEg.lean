/- Contracts: refresh's next, Next, Fire, Done, Start, and the reference's. Contracts: refresh's Fire, Done, Start, and the reference's. Contracts: refresh's Done, Start, and the reference's. -/
import Derived.Test.YthfonniieaiocaaGreatDoorEd
set_option linter.unusedVariables false
set_option linter.unusedSimpArgs false
namespace Go.Proofs.YthfonniieaiocaaGreatDoor
open Go.RowKit

def nextV (s : Int) (o : Bool) (t : Int) (p e : Bool) : Value := if mayR s o t p e = false ∨ s = 0 ∨ e = true then .tuple #[.int .i64 0, .bool false] else .tuple #[.int .i64 (nextR s o t p), .bool true]
def fireV (s : Int) (o : Bool) (t : Int) (p e : Bool) (now : Int) : Value :=
  if mayR s o t p e = false ∨ tmOK now = false then .tuple #[.agg #[.int .i64 0, .bool false, .int .i64 0, .bool false, .bool false], .int .u8 0, .int .u8 2]
  else if s = 0 ∨ e = true ∨ now < nextR s o t p then .tuple #[.agg #[.int .i64 s, .bool o, .int .i64 t, .bool p, .bool e], .int .u8 0, .int .u8 0]
  else if limR s t ≤ now then .tuple #[.agg #[.int .i64 s, .bool o, .int .i64 t, .bool false, .bool true], .int .u8 2, .int .u8 0]
  else .tuple #[.agg #[.int .i64 s, .bool o, .int .i64 t, .bool true, .bool e], .int .u8 1, .int .u8 0]
def doneV (s : Int) (o : Bool) (t : Int) (p e ok : Bool) (now : Int) : Value :=
  if mayR s o t p e = false ∨ tmOK now = false then .tuple #[.agg #[.int .i64 0, .bool false, .int .i64 0, .bool false, .bool false], .int .u8 0, .int .u8 2]
  else if s = 0 ∨ e = true ∨ (ok = false ∧ p = false) then .tuple #[.agg #[.int .i64 0, .bool false, .int .i64 0, .bool false, .bool false], .int .u8 0, .int .u8 9]
  else if ok = true then .tuple #[.agg #[.int .i64 s, .bool o, .int .i64 now, .bool false, .bool e], .int .u8 0, .int .u8 0]
  else .tuple #[.agg #[.int .i64 s, .bool o, .int .i64 t, .bool false, .bool true], .int .u8 2, .int .u8 0]
def startV (k s : Int) (c side : Bool) (now : Int) : Value :=
  if k ≠ 0 ∨ (s ≠ 0 ∧ ivl s = false) ∨ tmOK now = false then .tuple #[.agg #[.int .i64 0, .bool false, .int .i64 0, .bool false, .bool false], .int .u8 2]
  else if s = 0 then .tuple #[.agg #[.int .i64 0, .bool false, .int .i64 0, .bool false, .bool false], .int .u8 0]
  else .tuple #[.agg #[.int .i64 s, .bool (c == side), .int .i64 now, .bool false, .bool false], .int .u8 0]
end Go.Proofs.YthfonniieaiocaaGreatDoor
namespace Go.Proofs.YthfonniieaiocaaGreatDoor
open Go.RowKit

end Go.Proofs.YthfonniieaiocaaGreatDoor
namespace Go.Proofs.YthfonniieaiocaaGreatDoor
open Go.RowKit

end Go.Proofs.YthfonniieaiocaaGreatDoor
