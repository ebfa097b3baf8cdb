/- An argument that is a slice of events: the kinds are bytes. -/
import Derived.Test.YtgjhnaionalbpaaZc
namespace Go.Proofs.Ytgjhnaionalbpaa
open Go.RowKit Go.WideShapes Go.ChangeShapes Go.Deep
theorem u8_range {n : Int} (h : (Lit.int .u8 n).wf = true) : 0 ≤ n ∧ n ≤ 255 := by
  simp [Lit.wf] at h
  have h1 : IntKind.u8.min = 0 := rfl
  have h2 : IntKind.u8.max = 255 := rfl
  omega
theorem evs_open2 {H : Type} {enc : TypeId × Value → H} {W : World} {fuel : Nat} {A : Option Addr} {n c : Nat} {x : DataW H × List MemPlace}
    (h : DataW.trod enc Try.prog W 0 (fun _ => true) true fuel 28 [.slice A n c] = some x) : ∃ l : List Ev, Evs W A n l ∧ (∀ e ∈ l, 0 ≤ e.kind ∧ e.kind ≤ 255) ∧ (n : Int) ≤ 9223372036854775807 := by
  rcases open_slice_fields Try.underlying28 Try.underlying39 (by kernel_rfl) cellsEv h with ⟨hcs, _⟩ | ⟨a, len, cap, m, D, Pl, hcs, _, hl, hm, hmm, _, hi⟩
  · injection hcs with e1 _
    injection e1 with e2 e3 e4
    subst e2 e3 e4
    exact ⟨[], ⟨rfl, fun e he => by simp at he, fun h => absurd h (by omega)⟩, fun e he => by simp at he, by omega⟩
  · injection hcs with e1 _
    injection e1 with e2 e3 e4
    subst e2 e3 e4
    simp only [if_true] at hmm
    unfold maxLen at hm
    have key : ∀ i, i < n → ∃ e : Ev, ((0 ≤ e.wait ∧ e.wait ≤ 65535) ∧ (0 ≤ e.kind ∧ e.kind ≤ 255)) ∧ W.cell? (a.add (i * 3)) = some (.int .u16 e.wait) ∧ W.cell? (a.add (i * 3 + 1)) = some (.int .u8 e.kind) ∧ W.cell? (a.add (i * 3 + 2)) = some (.int .i64 e.code) := by
      intro i hin
      obtain ⟨ys, n', _, _, _, hf⟩ := hi i (by omega)
      obtain ⟨v0, y0, c0, _, t0⟩ := hf 0 _ rfl
      obtain ⟨v1, y1, c1, _, t1⟩ := hf 1 _ rfl
      obtain ⟨v2, y2, c2, _, t2⟩ := hf 2 _ rfl
      obtain ⟨z0, e0, _, w0⟩ := DataW.trod_int Try.underlying36 t0
      obtain ⟨z1, e1, _, w1⟩ := DataW.trod_int Try.underlying37 t1
      obtain ⟨z2, e2, _, _⟩ := DataW.trod_int Try.underlying3 t2
      simp only [List.cons.injEq, and_true] at e0 e1 e2
      subst e0 e1 e2
      exact ⟨⟨z0, z1, z2⟩, ⟨u16_range w0, u8_range w1⟩, c0, c1, c2⟩
    obtain ⟨l, hll, hr⟩ := list_of n key
    refine ⟨l, ⟨hll.symm, fun e he => ?_, fun hn => ?_⟩, fun e he => ?_, by omega⟩
    · obtain ⟨i, hi⟩ := List.mem_iff_getElem?.1 he
      exact (hr i e hi).1.1
    · obtain ⟨e, _, c0, _⟩ := key 0 hn
      obtain ⟨b, o, sp⟩ := a
      have hsp : sp = none := by
        cases sp with
        | none => rfl
        | some s => simp [Addr.add, World.cell?] at c0; split at c0 <;> simp at c0
      subst hsp
      have hb := World.block_lt_of_cell? W _ c0
      refine ⟨b, o, rfl, by simpa [Addr.add] using hb, fun j e he => ?_⟩
      have ha : ∀ q, (⟨b, o, none⟩ : Addr).add q = ⟨b, o + q, none⟩ := fun q => by
        unfold Addr.add; split
        · rename_i h0; simp [h0]
        · rfl
      obtain ⟨_, d0, d1, d2⟩ := hr j e he
      rw [ha] at d0 d1 d2
      exact ⟨d0, d1, d2⟩
    · obtain ⟨i, hi⟩ := List.mem_iff_getElem?.1 he
      exact (hr i e hi).1.2
end Go.Proofs.Ytgjhnaionalbpaa
