/- An argument that is a slice of events reads as a list of events. -/
import Derived.Test.YtgjhnaionalbpaaSg
import Derived.Test.YtgjhnaionalbpaaZb
import Derived.Deep.Slices
import Derived.Deep.Fields
import Derived.ChangeSame
namespace Go.Proofs.Ytgjhnaionalbpaa
open Go.RowKit Go.WideShapes Go.ChangeShapes Go.Deep

theorem list_of {α : Type} {R : Nat → α → Prop} : ∀ n : Nat, (∀ i, i < n → ∃ e, R i e) → ∃ l : List α, l.length = n ∧ ∀ (i : Nat) (e : α), l[i]? = some e → R i e
  | 0, _ => ⟨[], rfl, fun i e h => by simp at h⟩
  | n + 1, h => by
    obtain ⟨l, hl, hr⟩ := list_of n fun i hi => h i (by omega)
    obtain ⟨e, he⟩ := h n (by omega)
    refine ⟨l ++ [e], by simp [hl], fun i x hx => ?_⟩
    rcases Nat.lt_or_ge i n with h1 | h1
    · rw [List.getElem?_append_left (by omega)] at hx; exact hr i x hx
    · have h2 : i < (l ++ [e]).length := (List.getElem?_eq_some_iff.1 hx).1
      obtain rfl : i = n := by simp at h2; omega
      rw [List.getElem?_append_right (by omega)] at hx
      obtain rfl : e = x := by simpa [hl] using hx
      exact he

theorem u16_range {n : Int} (h : (Lit.int .u16 n).wf = true) : 0 ≤ n ∧ n ≤ 65535 := by
  simp [Lit.wf] at h
  have h1 : IntKind.u16.min = 0 := rfl
  have h2 : IntKind.u16.max = 65535 := rfl
  omega
section
variable {H : Type} {enc : TypeId × Value → H} {P : Program} {w : World} {base : Nat} {spare : Nat → Bool} {held : Bool}
theorem open_slice_fields {t e : TypeId} {fs : Array Field} {fuel : Nat} {cs : List Value} {x : DataW H × List MemPlace} (ht : P.underlying t = some (.slice e)) (he : P.underlying e = some (.struct fs))
    (hone : oneCellFields P fs = true) (hC : P.cellsOf e = fs.size) (h : DataW.trod enc P w base spare held fuel t cs = some x) :
    (cs = [.slice none 0 0] ∧ x = (.nil, [])) ∨
    ∃ (a : Addr) (len cap m : Nat) (D : Nat → DataW H) (Pl : Nat → List MemPlace), cs = [.slice (some a) len cap] ∧ base ≤ a.block ∧ len ≤ cap ∧ cap ≤ maxLen ∧ m = (if spare a.block then cap else len) ∧
      x = (.slice ((List.range len).map D) ((List.range (m - len)).map fun j => D (len + j)), MemPlace.row a (m * fs.size) ++ (List.range m).flatMap Pl) ∧
      ∀ i, i < m → ∃ (ys : List (DataW H × List MemPlace)) (n : Nat), D i = .agg (ys.map (·.1)) ∧ Pl i = ys.flatMap (·.2) ∧ ys.length = fs.size ∧
        ∀ (j : Nat) (f : Field), fs[j]? = some f → ∃ (v : Value) (y : DataW H × List MemPlace), w.cell? (a.add (i * fs.size + j)) = some v ∧ ys[j]? = some y ∧ DataW.trod enc P w base spare held n f.type [v] = some y := by
  rcases open_slice ht h with h0 | ⟨a, len, cap, m, n, D, Pl, hcs, hb, hl, hm, hmm, hx, hi⟩
  · exact .inl h0
  · refine .inr ⟨a, len, cap, m, D, Pl, hcs, hb, hl, hm, hmm, by rw [hC] at hx; exact hx, fun i him => ?_⟩
    obtain ⟨cs', hc, ht'⟩ := hi i him
    rw [hC] at hc
    obtain ⟨ys, n', hn', hy, hlen, hyl, hf⟩ := DataW.trod_struct he ht'
    obtain ⟨_, hcl, hat⟩ := World.cells?_some hc
    simp only [Prod.mk.injEq] at hy
    refine ⟨ys, n', hy.1, hy.2, hyl, fun j f hj => ?_⟩
    obtain ⟨ho, hk⟩ := hone_of hone j f hj
    have hjl : j < fs.size := (Array.getElem?_eq_some_iff.1 hj).1
    have hcell := hat j hjl
    have hv : cs'[j]? = some (cs'[j]'(by omega)) := List.getElem?_eq_getElem (by omega)
    have h1 := hf j f hj
    rw [ho, hk] at h1
    have hone' : (cs'.drop j).take 1 = [cs'[j]'(by omega)] := by
      rw [List.drop_eq_getElem_cons (by omega)]
      rfl
    rw [hone'] at h1
    have hys : ys[j]? = some (ys[j]'(by omega)) := List.getElem?_eq_getElem (by omega)
    refine ⟨_, _, ?_, hys, h1.trans hys⟩
    rw [← Go.Deep.add_add, hcell, hv]
end

theorem cellsEv : Try.prog.cellsOf 39 = 3 := by kernel_rfl
theorem evs_open {H : Type} {enc : TypeId × Value → H} {W : World} {fuel : Nat} {A : Option Addr} {n c : Nat} {x : DataW H × List MemPlace}
    (h : DataW.trod enc Try.prog W 0 (fun _ => true) true fuel 28 [.slice A n c] = some x) : ∃ l : List Ev, Evs W A n l ∧ (n : Int) ≤ 9223372036854775807 := by
  rcases open_slice_fields Try.underlying28 Try.underlying39 (by kernel_rfl) cellsEv h with ⟨hcs, _⟩ | ⟨a, len, cap, m, D, Pl, hcs, _, hl, hm, hmm, _, hi⟩
  · injection hcs with e1 _
    injection e1 with e2 e3 e4
    subst e2 e3 e4
    exact ⟨[], ⟨rfl, fun e he => by simp at he, fun h => absurd h (by omega)⟩, by omega⟩
  · injection hcs with e1 _
    injection e1 with e2 e3 e4
    subst e2 e3 e4
    simp only [if_true] at hmm
    unfold maxLen at hm
    have key : ∀ i, i < n → ∃ e : Ev, (0 ≤ e.wait ∧ e.wait ≤ 65535) ∧ W.cell? (a.add (i * 3)) = some (.int .u16 e.wait) ∧ W.cell? (a.add (i * 3 + 1)) = some (.int .u8 e.kind) ∧ W.cell? (a.add (i * 3 + 2)) = some (.int .i64 e.code) := by
      intro i hin
      obtain ⟨ys, n', _, _, _, hf⟩ := hi i (by omega)
      obtain ⟨v0, y0, c0, _, t0⟩ := hf 0 _ rfl
      obtain ⟨v1, y1, c1, _, t1⟩ := hf 1 _ rfl
      obtain ⟨v2, y2, c2, _, t2⟩ := hf 2 _ rfl
      obtain ⟨z0, e0, _, w0⟩ := DataW.trod_int Try.underlying36 t0
      obtain ⟨z1, e1, _, _⟩ := DataW.trod_int Try.underlying37 t1
      obtain ⟨z2, e2, _, _⟩ := DataW.trod_int Try.underlying3 t2
      simp only [List.cons.injEq, and_true] at e0 e1 e2
      subst e0 e1 e2
      exact ⟨⟨z0, z1, z2⟩, u16_range w0, c0, c1, c2⟩
    obtain ⟨l, hll, hr⟩ := list_of n key
    refine ⟨l, ⟨hll.symm, fun e he => ?_, fun hn => ?_⟩, by omega⟩
    · obtain ⟨i, hi⟩ := List.mem_iff_getElem?.1 he
      exact (hr i e hi).1
    · obtain ⟨e, _, c0, _⟩ := key 0 hn
      obtain ⟨b, o, sp⟩ := a
      have hsp : sp = none := by
        cases sp with
        | none => rfl
        | some s => simp [Addr.add, World.cell?] at c0; split at c0 <;> simp at c0
      subst hsp
      have hb := World.block_lt_of_cell? W _ c0
      refine ⟨b, o, rfl, by simpa [Addr.add] using hb, fun j e he => ?_⟩
      have ha : ∀ q, (⟨b, o, none⟩ : Addr).add q = ⟨b, o + q, none⟩ := fun q => by
        unfold Addr.add; split
        · rename_i h0; simp [h0]
        · rfl
      obtain ⟨_, d0, d1, d2⟩ := hr j e he
      rw [ha] at d0 d1 d2
      exact ⟨d0, d1, d2⟩
end Go.Proofs.Ytgjhnaionalbpaa
