/- Structs that lie in a block of their own: loaded, stored, handed back. -/
import Derived.Test.YtfhbpgickkibmaaDoorMb
namespace Go.Proofs.YtfhbpgickkibmaaDoor
open Go.RowKit

theorem bthen {a b c : World} (h : Below a.heap.size a b) (h2 : Below b.heap.size b c) : Below a.heap.size a c := h.trans (h2.mono h.size)
theorem heap_setCells {b : Nat} : ∀ (us : List Value) (o : Nat) (w : World) (b' : Nat), b' ≠ b → (w.setCells b o us).heap[b']? = w.heap[b']?
  | [], _, _, _, _ => rfl
  | u :: us, o, w, b', h => (heap_setCells us (o + 1) _ b' h).trans (Below.heap_setCell w ⟨b, o, none⟩ u b' h)
theorem wpList_loadR {P : Program} {ops : Array Oper} {rest : List Oper} {op : Oper} {a : Act} {w : World} {Q : Exit → Act → World → Prop} (hgd : op.guard = none) (ty : TypeId) (x : Operand) (ho : op.op = .load ty x) {b : Nat} {T : TypeId} {cs : List Value} (hr : Row w b T cs)
    (hx : a.eval x = .pointer (some ⟨b, 0, none⟩)) {d : TypeDesc} (hu : P.underlying ty = some d) (hd : d.isRow = true) (hi : (P.info? ty).map (·.size) = some cs.length)
    (h : wpList P ops Q rest (a.put op.dst (.agg cs.toArray)) w) : wpList P ops Q (op :: rest) a w :=
  wpList_load_mid hgd ty x ho b 0 hx cs d hr.range hu hd hi h
theorem wpList_storeR {P : Program} {ops : Array Oper} {rest : List Oper} {op : Oper} {a : Act} {W0 w : World} {Q : Exit → Act → World → Prop} (hgd : op.guard = none) (ty : TypeId) (x y : Operand) (ho : op.op = .store ty x y) {b : Nat} {T : TypeId} {vs : List Value} (hr : Row w b T vs) (us : List Value)
    (hx : a.eval x = .pointer (some ⟨b, 0, none⟩)) (hy : a.eval y = .agg us.toArray) (hl : vs.length = us.length) (hi : (P.info? ty).map (·.size) = some us.length) (h1 : ∀ u ∈ us, u.oneCell' = true) (hbw : Below W0.heap.size W0 w) (hb : W0.heap.size ≤ b)
    (h : ∀ w', Hid (Row w' b T us) → Hid (Below W0.heap.size W0 w') → Hid (w'.heap.size = w.heap.size ∧ ∀ b', b' ≠ b → w'.heap[b']? = w.heap[b']?) → wpList P ops Q rest (a.put op.dst undef) w') : wpList P ops Q (op :: rest) a w := by
  have hz : us.toArray.size = us.length := by simp
  refine wpList_store_mid hgd ty x y ho b 0 us.toArray hx hy (by rw [hz, ← hl]; exact hr.there) (by rw [hz]; exact hi) (all_oneCell_toArray h1) ?_
  refine h _ (Lib.hid (hr.setAll us hl)) (Lib.hid (below_setCells hb us 0 _ hbw)) (Lib.hid ⟨?_, fun b' hb' => heap_setCells us 0 w b' hb'⟩)
  have hsz : ∀ (us : List Value) (o : Nat) (w : World), (w.setCells b o us).heap.size = w.heap.size := by
    intro us
    induction us with
    | nil => intro o w; rfl
    | cons u us ih => intro o w; exact (ih (o + 1) _).trans (by simp [World.setCell])
  exact hsz us 0 w
theorem results_cell {fn : Func} {t : Tmp} {ty : TypeId} (h : fn.results = #[.cell t ty]) (tmps : Array Value) (P : Program) (w : World) (b : Nat) (cs : List Value) (d : TypeDesc)
    (ht : tmps.getD t undef = .pointer (some ⟨b, 0, none⟩)) (hc : w.rangeAt b 0 cs) (hu : P.underlying ty = some d) (hd : d.isRow = true) (hi : (P.info? ty).map (·.size) = some cs.length) :
    (results fn tmps).run P w = .ok (.agg cs.toArray) w := by
  have hl := run_loadVar_mid (P := P) w b 0 ty cs d hc hu hd hi
  simp only [results, h]
  simp [-Array.getD_eq_getD_getElem?, ht, asAddr, hl]
theorem results_ct {fn : Func} {t u : Tmp} {ty : TypeId} (h : fn.results = #[.cell t ty, .tmp u]) (tmps : Array Value) (P : Program) (w : World) (b : Nat) (cs : List Value) (d : TypeDesc)
    (ht : tmps.getD t undef = .pointer (some ⟨b, 0, none⟩)) (hc : w.rangeAt b 0 cs) (hu : P.underlying ty = some d) (hd : d.isRow = true) (hi : (P.info? ty).map (·.size) = some cs.length) :
    (results fn tmps).run P w = .ok (.tuple #[.agg cs.toArray, tmps.getD u undef]) w := by
  have hl := run_loadVar_mid (P := P) w b 0 ty cs d hc hu hd hi
  simp only [results, h]
  simp [-Array.getD_eq_getD_getElem?, ht, asAddr, hl]
theorem Row.heap {w w' : World} {b : Nat} {T : TypeId} {vs : List Value} (h : Row w b T vs) (he : w'.heap[b]? = w.heap[b]?) : Row w' b T vs := he.trans h
theorem VX.other {T : TypeId} {sz : Nat} {w wr w' : World} {v : Value} {n : Nat} {cs : List Value} (H : VX T sz w v n cs wr) (hb : Below w.heap.size w w') (hk : ∀ g, v.ownBlock = some g → w'.heap[g]? = wr.heap[g]?) : VX T sz w v n cs w' := by
  refine ⟨⟨H.o.1, ?_⟩, hb⟩
  rcases H.o.2 with h0 | ⟨g, cap, cur, h1, h2, h3, h4⟩
  · exact .inl h0
  · exact .inr ⟨g, cap, cur, h1, h2, (hk g (by rw [h1]; rfl)).trans h3, h4⟩
end Go.Proofs.YtfhbpgickkibmaaDoor
