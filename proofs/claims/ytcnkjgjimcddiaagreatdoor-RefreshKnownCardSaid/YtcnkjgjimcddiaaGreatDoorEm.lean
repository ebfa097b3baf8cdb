/- Plain laws of RefreshLives. -/
import Derived.Test.YtcnkjgjimcddiaaGreatDoorEo
namespace Go.Proofs.YtcnkjgjimcddiaaGreatDoor
open Go.RowKit

/-- A slice of 16 bit numbers. -/
def Ds (w : World) (B : Nat) (A : Option Addr) (xs : List Int) : Prop := 0 < xs.length → ∃ ad, A = some ad ∧ ad.block < B ∧ ∀ (j : Nat) x, xs[j]? = some x → w.cell? (ad.add j) = some (.int .u16 x)
theorem Ds.below {w w' : World} {B : Nat} {A : Option Addr} {xs : List Int} (h : Ds w B A xs) (hb : Below B w w') : Ds w' B A xs := fun hn => by
  obtain ⟨ad, h1, h2, h3⟩ := h hn
  exact ⟨ad, h1, h2, fun j x hx => (hb.cell (by rw [add_block]; exact h2)).trans (h3 j x hx)⟩
def DsW (w : World) (A : Option Addr) (xs : List Int) : Prop := Ds w w.heap.size A xs
end Go.Proofs.YtcnkjgjimcddiaaGreatDoor
