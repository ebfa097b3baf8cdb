/- A slice of bytes, opened, with what a nil one is. -/
import Derived.Test.YtldonfgdomeacaaDoorY
namespace Go.Proofs.YtldonfgdomeacaaDoor
open Go.ChangeShapes Go.WideShapes Go.ChangeAt Go.RowKit
theorem bytes_open2 {H : Type} {enc : TypeId × Value → H} {W : World} {b0 : Nat} {v : Value} {d : DataW H} {p : List MemPlace} (hv : Value.okWide Tryd.prog W .any b0 22 v) (h : DataW.Trod enc Tryd.prog W 0 (fun _ => true) true 22 v d p) :
    ∃ (A : Option Addr) (n c : Nat) (bs : List Int), v = .slice A n c ∧ By bs ∧ bs.length = n ∧ n ≤ c ∧ Bs W W.heap.size A bs ∧ (A = none → n = 0 ∧ c = 0) := by
  obtain ⟨A, n, c, bs, rfl, h1, h2, h3, h4⟩ := bytes_open hv h
  refine ⟨A, n, c, bs, rfl, h1, h2, h3, h4, fun e => ?_⟩
  subst e
  obtain ⟨fuel, hf⟩ := h
  rcases open_ints Tryd.underlying22 Tryd.underlying5 c5 hf with ⟨h1, _⟩ | ⟨a, len, cap, zs, h1, _⟩
  · simp [Value.cells] at h1
    exact h1
  · simp [Value.cells] at h1
end Go.Proofs.YtldonfgdomeacaaDoor
