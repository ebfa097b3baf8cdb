/- A map of texts that the call makes, as a list of names and values. -/
import Derived.Test.YtcnkjgjimcddiaaGreatDoorMc
import Derived.Test.YtcnkjgjimcddiaaGreatDoorCb
import Derived.Maps.OwnSet
namespace Go.Proofs.YtcnkjgjimcddiaaGreatDoor
open Go.RowKit
open Go.ChangeMaps (setBlock)

theorem num_inj {a b : List Int} (ha : By a) (hb : By b) : strOfNums a = strOfNums b ↔ a = b := ⟨fun h => by rw [← byteL_str ha, ← byteL_str hb, h], fun h => by rw [h]⟩
def enV (q : List Int × List Int) : Value × Value := (.string (strOfNums q.1), .string (strOfNums q.2))
/-- Block r is a map with these names and values. -/
def MapIs (w : World) (r : Nat) (l : List (List Int × List Int)) : Prop := (∀ q ∈ l, By q.1) ∧ ∃ es clock, w.heap[r]? = some (.map es clock) ∧ es.toList.map (fun e => (e.key, e.val)) = l.map enV
theorem MapIs.new (w : World) : MapIs (w.alloc (.map #[] 0)) w.heap.size [] := ⟨(fun _ h => by cases h), #[], 0, heap_alloc_new w _, rfl⟩
theorem MapIs.lt {w : World} {r : Nat} {l : List (List Int × List Int)} (h : MapIs w r l) : r < w.heap.size := by
  obtain ⟨_, es, clock, hb, _⟩ := h
  rcases Nat.lt_or_ge r w.heap.size with h1 | h1
  · exact h1
  · rw [Array.getElem?_eq_none h1] at hb; cases hb
theorem MapIs.heap {w w' : World} {r : Nat} {l : List (List Int × List Int)} (h : MapIs w r l) (he : w'.heap[r]? = w.heap[r]?) : MapIs w' r l := by
  obtain ⟨h1, es, clock, hr, hx⟩ := h
  exact ⟨h1, es, clock, he.trans hr, hx⟩
theorem MapIs.below {w w' : World} {r : Nat} {l : List (List Int × List Int)} (h : MapIs w r l) (hb : Below w.heap.size w w') : MapIs w' r l := h.heap (hb.block r h.lt)
end Go.Proofs.YtcnkjgjimcddiaaGreatDoor
