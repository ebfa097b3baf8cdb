/- Contracts of lexis: Quote. -/
import Derived.Test.YtcnkjgjimcddiaaGreatDoorCb
import Derived.Test.YtcnkjgjimcddiaaGreatDoorMa
namespace Go.Proofs.YtcnkjgjimcddiaaGreatDoor
open Go.RowKit

def quoteV (xs : List Int) : Value := if clean xs = true then .tuple #[.string (strOfNums (quoteL xs)), .int .u8 0] else .tuple #[.string ⟨#[]⟩, .int .u8 5]
theorem OX.made (w : World) (c : Nat) (hc : c ≤ 16777216) : OX w (.slice (some ⟨w.heap.size, 0, none⟩) 0 c) [] (w.alloc (.cells (U8 (List.replicate c 0)).toArray 5)) :=
  ⟨⟨rfl, .inr ⟨_, c, _, rfl, Nat.le_refl _, heap_alloc_new w _, Nat.zero_le _, by unfold maxLen; omega, by simp [U8], by simp [U8]⟩⟩, (Below.refl _ _).alloc (Nat.le_refl _) _⟩
def QR (w : World) (xs : List Int) (m : Nat) (v v16 : Value) (wr : World) : Prop := ∃ (k : Nat) (x : Value) (L : List Int), k ≤ m ∧ x = v ∧ v16 = .int .i64 k ∧ L.length ≤ 2 * k + 1 ∧ Hid (L = 34 :: escL (xs.take k) ∧ OX w x L wr ∧ ∀ j, j < k → isCtl (xs.getD j 0) = false)
end Go.Proofs.YtcnkjgjimcddiaaGreatDoor
