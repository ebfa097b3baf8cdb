/- Contracts of the reference 01: Quote, opens, step, Unquote. Contracts of the reference 01: Unquote. -/
import Derived.Test.YtcnkjgjimcddiaaGreatDoorCd
import Derived.Test.YtcnkjgjimcddiaaGreatDoorCe
namespace Go.Proofs.YtcnkjgjimcddiaaGreatDoor
open Go.RowKit

theorem OX.one (w : World) (x : Int) : OX w (.slice (some ⟨w.heap.size, 0, none⟩) 1 1) [x] (w.alloc (.cells #[.int .u8 x] 5)) :=
  ⟨⟨rfl, .inr ⟨_, 1, _, rfl, Nat.le_refl _, heap_alloc_new w _, Nat.le_refl _, by unfold maxLen; omega, by simp, by simp [U8]⟩⟩, (Below.refl _ _).alloc (Nat.le_refl _) _⟩
def opensR (xs : List Int) (z c : Int) : Int × Int := if z < 0 ∨ (xs.length : Int) < z then (0, 2) else if z = xs.length ∨ xs.getD z.toNat 0 ≠ c then (z, 5) else (0, 0)
/-- What the reference's step answers, case by case. -/
def StepIs (xs : List Int) (i : Nat) (r : Int × Int × Int) : Prop :=
  (xs.length ≤ i ∧ r = (0, (xs.length : Int), 6)) ∨
  (i < xs.length ∧ ((isCtl (xs.getD i 0) = true ∧ r = (0, (i : Int), 5)) ∨
    (isCtl (xs.getD i 0) = false ∧ ((xs.getD i 0 ≠ 92 ∧ r = (1, 0, 0)) ∨
      (xs.getD i 0 = 92 ∧ ((i + 1 = xs.length ∧ r = (0, (xs.length : Int), 6)) ∨
        (i + 1 < xs.length ∧ ((¬ (32 ≤ xs.getD (i + 1) 0 ∧ xs.getD (i + 1) 0 ≤ 126) ∧ r = (0, (i : Int), 5)) ∨ ((32 ≤ xs.getD (i + 1) 0 ∧ xs.getD (i + 1) 0 ≤ 126) ∧ r = (2, 0, 0))))))))))
def StepP (xs : List Int) (i : Nat) (w : World) (e : Ending) (w' : World) : Prop := (∃ r, StepIs xs i r ∧ e = .returned (.tuple #[.int .i64 r.1, .int .i64 r.2.1, .int .u8 r.2.2])) ∧ w = w'
end Go.Proofs.YtcnkjgjimcddiaaGreatDoor
namespace Go.Proofs.YtcnkjgjimcddiaaGreatDoor
open Go.RowKit

end Go.Proofs.YtcnkjgjimcddiaaGreatDoor
