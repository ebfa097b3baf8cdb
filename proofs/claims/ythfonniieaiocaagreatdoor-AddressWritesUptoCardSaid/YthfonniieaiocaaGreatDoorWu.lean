/- Contracts: the law's host, refused, wrong; the reference's SameAddress. -/
import Derived.Test.YthfonniieaiocaaGreatDoorWe
import Derived.BigQuiet
set_option linter.unusedVariables false
set_option linter.unusedSimpArgs false
namespace Go.Proofs.YthfonniieaiocaaGreatDoor
open Go.RowKit

structure AArg (w : World) (a : Adr) (A1 A2 A3 : Option Addr) : Prop where
  ds : By a.ds
  u : UArg w a.u A1 A2
  sp : ∀ p ∈ a.ps, pmSz p
  r3 : Rds w w.heap.size A3 (pms a.ps)
  l3 : a.ps.length ≤ 16000000
theorem AArg.step {w w' : World} {a : Adr} {A1 A2 A3 : Option Addr} (h : AArg w a A1 A2 A3) (hb : Below w.heap.size w w') : AArg w' a A1 A2 A3 := { h with u := h.u.step hb, r3 := (h.r3.below hb).up hb.size }
end Go.Proofs.YthfonniieaiocaaGreatDoor
