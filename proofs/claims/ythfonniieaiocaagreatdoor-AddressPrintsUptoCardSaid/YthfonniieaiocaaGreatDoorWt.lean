/- Contract: address.PrintParams. -/
import Derived.Test.YthfonniieaiocaaGreatDoorYa
import Derived.BigQuiet
import Derived.Deep.CutBlock
import Derived.Deep.DeepCutAuto
set_option linter.unusedVariables false
set_option linter.unusedSimpArgs false
namespace Go.Proofs.YthfonniieaiocaaGreatDoor
open Go.RowKit

theorem pms_take (l : List Pm) (k : Nat) : pms l = pms (l.take k) ++ pms (l.drop k) := by
  conv => lhs; rw [← List.take_append_drop k l]
  unfold pms
  rw [List.flatMap_append]
theorem rds_take {w : World} {B : Nat} {A : Option Addr} {l : List Pm} (h : Rds w B A (pms l)) (k : Nat) : Rds w B A (pms (l.take k)) := fun hn => by
  obtain ⟨b, o, e, hb, hc⟩ := h (by rw [pms_take l k, List.length_append]; omega)
  refine ⟨b, o, e, hb, fun j u hu => hc j u ?_⟩
  rw [pms_take l k, List.getElem?_append_left (List.getElem?_eq_some_iff.1 hu).1]
  exact hu
end Go.Proofs.YthfonniieaiocaaGreatDoor
