/- Contract: address.Get; the reference's Get on these parameters. Contracts: Set, the program's and the reference's. The law AddressLists. The law AddressWrites. -/
import Derived.Test.YthfonniieaiocaaGreatDoorTi
import Derived.Test.YthfonniieaiocaaGreatDoorUh
import Derived.Test.YthfonniieaiocaaGreatDoorXf
import Derived.Test.YthfonniieaiocaaGreatDoorFe
import Derived.Test.YthfonniieaiocaaGreatDoorXv
import Derived.Test.YthfonniieaiocaaGreatDoorXz
import Derived.Test.YthfonniieaiocaaGreatDoorLl
import Derived.Test.YthfonniieaiocaaGreatDoorYa
import Derived.Test.YthfonniieaiocaaGreatDoorTr
set_option linter.unusedVariables false
set_option linter.unusedSimpArgs false
namespace Go.Proofs.YthfonniieaiocaaGreatDoor
open Go.RowKit

end Go.Proofs.YthfonniieaiocaaGreatDoor
namespace Go.Proofs.YthfonniieaiocaaGreatDoor
open Go.RowKit

end Go.Proofs.YthfonniieaiocaaGreatDoor
namespace Go.Proofs.YthfonniieaiocaaGreatDoor
open Go.RowKit

theorem eql_int (P : Program) (T : TypeId) (k : IntKind) (z : Int) (w : World) : (binOp .eql T (.int k z) (.int k z)).run P w = .ok (.bool true) w := by
  simp [go_sem]
theorem eql_str (P : Program) (T : TypeId) (s : ByteArray) (w : World) : (binOp .eql T (.string s) (.string s)).run P w = .ok (.bool true) w := by
  simp [go_sem]
theorem guard_int (P : Program) (T : TypeId) (k : IntKind) (x y : Operand) (z z' : Int) (w : World) : (eqGuard .eql T x y (.int k z) (.int k z')).run P w = .ok () w := by
  simp [go_sem]
theorem guard_str (P : Program) (T : TypeId) (x y : Operand) (z z' : ByteArray) (w : World) : (eqGuard .eql T x y (.string z) (.string z')).run P w = .ok () w := by
  simp [go_sem]
def pqL : Except (Nat × Int) (List Pm) → List Pm
  | .ok l => l
  | .error _ => []
def pzL : Except (Nat × Int) (List Pm) → Int
  | .ok _ => 0
  | .error q => (q.1 : Nat)
def pkL : Except (Nat × Int) (List Pm) → Int
  | .ok _ => 0
  | .error q => q.2
theorem par_both {w w' : World} {R : Except (Nat × Int) (List Pm)} {e : Ending} (h : ParP w R e w') : ∃ A c, e = .returned (.tuple #[.slice A (pqL R).length c, .int .i64 (pzL R), .int .u8 (pkL R)]) ∧ Below w.heap.size w w' ∧ Rds w' w'.heap.size A (pms (pqL R)) ∧ (pqL R).length ≤ 16 := by
  cases R with
  | error q =>
    obtain ⟨rfl, hb, _⟩ := h
    exact ⟨none, 0, rfl, hb, fun hn => absurd hn (Nat.lt_irrefl _), Nat.zero_le _⟩
  | ok l =>
    obtain ⟨v, rfl, X, hl⟩ := h
    obtain ⟨A, c, rfl, hr⟩ := X.rdw
    exact ⟨A, c, rfl, X.bw, hr, hl⟩
theorem samePs_self (l : List Pm) : samePs l l = true := samePs_iff.2 rfl
def GrowsW (f : World → Value → Prop) : Prop := ∀ W W' v, Below W.heap.size W W' → f W v → f W' v
theorem growsw_eq (u : Value) : GrowsW (fun _ v => v = u) := fun _ _ _ _ h => h
theorem growsw_rds (N : Nat) (cs : List Value) : GrowsW (fun W v => ∃ B d, v = .slice B N d ∧ Rds W W.heap.size B cs) := fun _ _ _ hb ⟨B, d, h, hr⟩ => ⟨B, d, h, (hr.below hb).up hb.size⟩
theorem growsw_get {l : List (World → Value → Prop)} (hl : ∀ f ∈ l, GrowsW f) (j : Nat) : GrowsW (l.getD j (fun _ _ => True)) := by
  rw [List.getD_eq_getElem?_getD]
  cases h : l[j]? with
  | none => exact fun _ _ _ _ _ => trivial
  | some f => exact hl f (List.mem_of_getElem? h)
end Go.Proofs.YthfonniieaiocaaGreatDoor
namespace Go.Proofs.YthfonniieaiocaaGreatDoor
open Go.RowKit

end Go.Proofs.YthfonniieaiocaaGreatDoor
