/- Contract: the reference's reader: list. And what stands behind it. -/
import Derived.Test.YthfonniieaiocaaGreatDoorXf
set_option linter.unusedVariables false
set_option linter.unusedSimpArgs false
namespace Go.Proofs.YthfonniieaiocaaGreatDoor
open Go.RowKit

structure LR (w : World) (b : Nat) (s : ByteArray) (i : Nat) (q : Nat × Int) (L : List Blk) (l : List Pm) (v : Value) (w' : World) : Prop where
  x : PX w b s i q L w'
  o : w'.ownsRow w.heap.size 56 3 v l.length (pms l)
section
variable {w w1 w2 : World} {b i j : Nat} {s : ByteArray} {q q' : Nat × Int} {L : List Blk} {l : List Pm} {v : Value}
theorem LR.then (h : LR w b s i q L l v w1) (h2 : RdX w1 b s j q' w2) : LR w b s j q' L l v w2 := by
  refine ⟨h.x.then h2, h.o.1, ?_⟩
  rcases h.o.2 with h0 | ⟨g, cap, cur, e1, e2, e3, e4⟩
  · exact .inl h0
  · have hlt := h.x.lt
    exact .inr ⟨g, cap, cur, e1, e2, (h2.g.block g (lt_of_block e3) (fun e => by injection e with e; omega)).trans e3, e4⟩
end

theorem LR.call {w w1 w2 : World} {b i : Nat} {s : ByteArray} {q : Nat × Int} {L : List Blk} {l : List Pm} {v : Value} (h : LR w b s i q L l v w1) (hb : Below w1.heap.size w1 w2) : LR w b s i q L l v w2 := h.then ⟨h.x.r.below hb, rgr_below hb⟩

theorem getD_take {xs : List Int} {k i : Nat} (h : i < k) : (xs.take k).getD i 0 = xs.getD i 0 := by
  rw [List.getD_eq_getElem?_getD, List.getD_eq_getElem?_getD, List.getElem?_take, if_pos h]

theorem isQ_at {xs : List Int} {i : Nat} {c : Int} : isQ xs i (0, 0) c = atL xs i c := by unfold isQ; simp
theorem LOK.low {k : Int} {l : List Pm} (h : LOK k l) : ∀ p ∈ l, lowS p.n = p.n := fun p hp => (h.f p hp).low

def PhoX (xs : List Int) (a : Nat) (T : ByteArray) (z : Nat × Int) (j : Nat) : Prop := j ≤ xs.length ∧ match phoneL xs a with
  | .ok r => T = strOfNums r.1 ∧ z = (0, 0) ∧ j = r.2
  | .error e => z = e

end Go.Proofs.YthfonniieaiocaaGreatDoor
