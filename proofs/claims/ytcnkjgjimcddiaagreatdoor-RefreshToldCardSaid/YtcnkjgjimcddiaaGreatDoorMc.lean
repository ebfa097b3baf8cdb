/- Slices of structs and of texts that the call made; one more element. Structs that lie in a block of their own: loaded, stored, handed back. -/
import Derived.Test.YtcnkjgjimcddiaaGreatDoorMa
import Derived.Test.YtcnkjgjimcddiaaGreatDoorPe
namespace Go.Proofs.YtcnkjgjimcddiaaGreatDoor
open Go.RowKit

/-- A slice that the call made: its cells. -/
structure VX (T : TypeId) (sz : Nat) (w : World) (v : Value) (n : Nat) (cs : List Value) (wr : World) : Prop where
  o : wr.ownsRow w.heap.size T sz v n cs
  bw : Below w.heap.size w wr
theorem VX.nil (T : TypeId) (sz : Nat) (w : World) : VX T sz w (.slice none 0 0) 0 [] w := ⟨World.ownsRow_nil _ _ _ _, Below.refl _ _⟩
theorem VX.step {T : TypeId} {sz : Nat} {w wr w' : World} {v : Value} {n : Nat} {cs : List Value} (H : VX T sz w v n cs wr) (hb : Below wr.heap.size wr w') : VX T sz w v n cs w' := by
  refine ⟨⟨H.o.1, ?_⟩, H.bw.trans (hb.mono H.bw.size)⟩
  rcases H.o.2 with h0 | ⟨g, cap, cur, h1, h2, h3, h4⟩
  · exact .inl h0
  · exact .inr ⟨g, cap, cur, h1, h2, (hb.block g (lt_of_block h3)).trans h3, h4⟩
theorem VX.drewN {T : TypeId} {sz : Nat} {w wr : World} {v : Value} {n : Nat} {cs : List Value} (H : VX T sz w v n cs wr) (q : Nat) : VX T sz w v n cs (wr.drewN q) := H.step ⟨rfl, rfl, rfl, Nat.le_refl _, fun _ _ => rfl⟩
theorem wpList_pushT {T ST : TypeId} {sz bytes : Nat} {z : Value} {w wr : World} {ops : Array Oper} {rest : List Oper} {o : Oper} {a : Act} {Q : Exit → Act → World → Prop} (hgd : o.guard = none) (s x : Operand)
    (ho : o.op = .call { callee := .builtin .append, args := #[s, x], argTypes := #[ST, ST] }) (hT : Tryz.prog.underlying ST = some (.slice T)) (hinfo : ∃ i, Tryz.prog.info? T = some i ∧ i.zero = some z ∧ i.size = sz ∧ i.bytes = bytes) (hzs : z.cells.size = sz) (hpos : 0 < sz) (hby : bytes ≤ 1000)
    (v : Value) (n : Nat) (xs : List Value) (hs : a.eval s = v) (H : VX T sz w v n xs wr) (cs : List Value) (hcs : cs.length = sz) (h1 : ∀ u ∈ cs, u.oneCell' = true) (hx : a.eval x = .slice (some ⟨wr.heap.size, 0, none⟩) 1 1) (hb : n + 1 ≤ 16777216)
    (h : ∀ v' w', Hid (VX T sz w v' (n + 1) (xs ++ cs) w') → wpList Tryz.prog ops Q rest (a.put o.dst v') w') : wpList Tryz.prog ops Q (o :: rest) a (wr.alloc (.cells cs.toArray T)) := by
  obtain ⟨i, hi, hz, hsz, hbt⟩ := hinfo
  have hbase : w.heap.size ≤ (wr.alloc (.cells cs.toArray T)).heap.size := by have := H.bw.size; simp; omega
  refine wpList_append_own _ hgd s x ST ho w.heap.size T i z sz bytes hT hi hz hsz hbt hzs hpos v n xs hs (H.o.alloc _) ⟨wr.heap.size, 0, none⟩ 1 1 cs hx (by rw [Nat.one_mul]; exact hcs) (fun j u hu => ?_) h1 (by unfold maxLen; omega) ?_ hbase ?_
  · rw [Addr.add_mid, Nat.zero_add]
    exact ((Row.new wr T cs).cell j).trans hu
  · have : (n + 1) * bytes ≤ 16777216 * 1000 := Nat.mul_le_mul hb hby
    omega
  · intro v' w' h2 h3 _
    refine h v' w' (Lib.hid ⟨h2, (H.bw.alloc H.bw.size _).grown h3 hbase (own_block H.o)⟩)
def pcs (ps : List (Nat × List Int)) : List Value := ps.flatMap fun p => [.int .i64 (p.1 : Int), .string (strOfNums p.2)]
theorem pcs_snoc (ps : List (Nat × List Int)) (p : Nat × List Int) : pcs (ps ++ [p]) = pcs ps ++ [.int .i64 (p.1 : Int), .string (strOfNums p.2)] := by simp [pcs]
abbrev PX (w : World) (v : Value) (ps : List (Nat × List Int)) (wr : World) : Prop := VX 150 2 w v ps.length (pcs ps) wr
theorem infoP : ∃ i, Tryz.prog.info? 150 = some i ∧ i.zero = some (.agg #[.int .i64 0, .string ⟨#[]⟩]) ∧ i.size = 2 ∧ i.bytes = 24 := by
  have h : (Tryz.prog.info? 150).map (fun i => (i.size, i.zero, i.bytes)) = some (2, some (.agg #[.int .i64 0, .string ⟨#[]⟩]), 24) := by kernel_rfl
  rw [Option.map_eq_some_iff] at h
  obtain ⟨i, hi, he⟩ := h
  injection he with h1 h2
  injection h2 with h2 h3
  exact ⟨i, hi, h2, h1, h3⟩
theorem wpList_pushP {w wr : World} {ops : Array Oper} {rest : List Oper} {o : Oper} {a : Act} {Q : Exit → Act → World → Prop} (hgd : o.guard = none) (s x : Operand)
    (ho : o.op = .call { callee := .builtin .append, args := #[s, x], argTypes := #[146, 146] }) (v : Value) (ps : List (Nat × List Int)) (hs : a.eval s = v) (H : PX w v ps wr) (p : Nat × List Int) (hx : a.eval x = .slice (some ⟨wr.heap.size, 0, none⟩) 1 1) (hb : ps.length + 1 ≤ 16777216)
    (h : ∀ v' w' L, Hid (L = ps ++ [p]) → L.length = ps.length + 1 → Hid (PX w v' L w') → wpList Tryz.prog ops Q rest (a.put o.dst v') w') : wpList Tryz.prog ops Q (o :: rest) a (wr.alloc (.cells #[.int .i64 (p.1 : Int), .string (strOfNums p.2)] 150)) :=
  wpList_pushT hgd s x ho Tryz.underlying146 infoP rfl (by omega) (by omega) v ps.length (pcs ps) hs H [.int .i64 (p.1 : Int), .string (strOfNums p.2)] rfl (fun u hu => by
    simp at hu
    rcases hu with rfl | rfl <;> rfl) hx hb fun v' w' h1 => h v' w' (ps ++ [p]) (Lib.hid rfl) (by simp) (Lib.hid (by
      have := h1.out
      unfold PX
      rw [pcs_snoc, List.length_append]
      exact this))
theorem infoS : ∃ i, Tryz.prog.info? 9 = some i ∧ i.zero = some (.string ⟨#[]⟩) ∧ i.size = 1 ∧ i.bytes = 16 := by
  have h : (Tryz.prog.info? 9).map (fun i => (i.size, i.zero, i.bytes)) = some (1, some (.string ⟨#[]⟩), 16) := by kernel_rfl
  rw [Option.map_eq_some_iff] at h
  obtain ⟨i, hi, he⟩ := h
  injection he with h1 h2
  injection h2 with h2 h3
  exact ⟨i, hi, h2, h1, h3⟩
abbrev TX (w : World) (v : Value) (zs : List ByteArray) (wr : World) : Prop := VX 9 1 w v zs.length (zs.map Value.string) wr
/-- A parameter: name, value, has. -/
structure Prm where
  n : List Int
  v : List Int
  h : Bool
  deriving DecidableEq
def prmC (p : Prm) : List Value := [.string (strOfNums p.n), .string (strOfNums p.v), .bool p.h]
def prms (ps : List Prm) : List Value := ps.flatMap prmC
abbrev RX (w : World) (v : Value) (ps : List Prm) (wr : World) : Prop := VX 84 3 w v ps.length (prms ps) wr
theorem flat_at {α : Type} (f : α → List Value) (sz : Nat) (hf : ∀ x, (f x).length = sz) : ∀ (l : List α) (k j : Nat) (x : α), l[k]? = some x → j < sz → (l.flatMap f)[k * sz + j]? = (f x)[j]?
  | [], k, j, x, h, _ => by cases h
  | y :: l, 0, j, x, h, hj => by
    cases h
    rw [List.flatMap_cons, Nat.zero_mul, Nat.zero_add, List.getElem?_append_left (by rw [hf]; exact hj)]
  | y :: l, k + 1, j, x, h, hj => by
    rw [List.flatMap_cons, List.getElem?_append_right (by rw [hf, Nat.succ_mul]; omega), hf, show (k + 1) * sz + j - sz = k * sz + j by rw [Nat.succ_mul]; omega]
    exact flat_at f sz hf l k j x h hj
/-- The cells of a slice that the call made, where they lie. -/
theorem VX.form {T : TypeId} {sz : Nat} {w wr : World} {v : Value} {n : Nat} {cs : List Value} (H : VX T sz w v n cs wr) : (v = .slice none 0 0 ∧ n = 0 ∧ cs = []) ∨ ∃ g cap, v = .slice (some ⟨g, 0, none⟩) n cap ∧ n ≤ cap ∧ w.heap.size ≤ g ∧ g < wr.heap.size ∧ ∀ (j : Nat) u, cs[j]? = some u → wr.cell? ⟨g, j, none⟩ = some u := by
  have hl := H.o.1
  rcases H.o.2 with ⟨rfl, rfl⟩ | ⟨g, cap, cur, rfl, hb, hg, hc, _, hs, ht⟩
  · exact .inl ⟨rfl, rfl, List.eq_nil_of_length_eq_zero (by simpa using hl)⟩
  · refine .inr ⟨g, cap, rfl, hc, hb, lt_of_block hg, fun j u hx => ?_⟩
    rw [cell_of_row wr g j cur T (0, 0) hg]
    have hj : j < cs.length := (List.getElem?_eq_some_iff.1 hx).1
    have h2 : (cur.toList.take (n * sz))[j]? = cs[j]? := by rw [ht]
    rw [List.getElem?_take, if_pos (by omega), hx] at h2
    simpa using h2
end Go.Proofs.YtcnkjgjimcddiaaGreatDoor
namespace Go.Proofs.YtcnkjgjimcddiaaGreatDoor
open Go.RowKit

theorem bthen {a b c : World} (h : Below a.heap.size a b) (h2 : Below b.heap.size b c) : Below a.heap.size a c := h.trans (h2.mono h.size)
theorem heap_setCells {b : Nat} : ∀ (us : List Value) (o : Nat) (w : World) (b' : Nat), b' ≠ b → (w.setCells b o us).heap[b']? = w.heap[b']?
  | [], _, _, _, _ => rfl
  | u :: us, o, w, b', h => (heap_setCells us (o + 1) _ b' h).trans (Below.heap_setCell w ⟨b, o, none⟩ u b' h)
theorem wpList_loadR {P : Program} {ops : Array Oper} {rest : List Oper} {op : Oper} {a : Act} {w : World} {Q : Exit → Act → World → Prop} (hgd : op.guard = none) (ty : TypeId) (x : Operand) (ho : op.op = .load ty x) {b : Nat} {T : TypeId} {cs : List Value} (hr : Row w b T cs)
    (hx : a.eval x = .pointer (some ⟨b, 0, none⟩)) {d : TypeDesc} (hu : P.underlying ty = some d) (hd : d.isRow = true) (hi : (P.info? ty).map (·.size) = some cs.length)
    (h : wpList P ops Q rest (a.put op.dst (.agg cs.toArray)) w) : wpList P ops Q (op :: rest) a w :=
  wpList_load_mid hgd ty x ho b 0 hx cs d hr.range hu hd hi h
theorem wpList_storeR {P : Program} {ops : Array Oper} {rest : List Oper} {op : Oper} {a : Act} {W0 w : World} {Q : Exit → Act → World → Prop} (hgd : op.guard = none) (ty : TypeId) (x y : Operand) (ho : op.op = .store ty x y) {b : Nat} {T : TypeId} {vs : List Value} (hr : Row w b T vs) (us : List Value)
    (hx : a.eval x = .pointer (some ⟨b, 0, none⟩)) (hy : a.eval y = .agg us.toArray) (hl : vs.length = us.length) (hi : (P.info? ty).map (·.size) = some us.length) (h1 : ∀ u ∈ us, u.oneCell' = true) (hbw : Below W0.heap.size W0 w) (hb : W0.heap.size ≤ b)
    (h : ∀ w', Hid (Row w' b T us) → Hid (Below W0.heap.size W0 w') → Hid (w'.heap.size = w.heap.size ∧ ∀ b', b' ≠ b → w'.heap[b']? = w.heap[b']?) → wpList P ops Q rest (a.put op.dst undef) w') : wpList P ops Q (op :: rest) a w := by
  have hz : us.toArray.size = us.length := by simp
  refine wpList_store_mid hgd ty x y ho b 0 us.toArray hx hy (by rw [hz, ← hl]; exact hr.there) (by rw [hz]; exact hi) (all_oneCell_toArray h1) ?_
  refine h _ (Lib.hid (hr.setAll us hl)) (Lib.hid (below_setCells hb us 0 _ hbw)) (Lib.hid ⟨?_, fun b' hb' => heap_setCells us 0 w b' hb'⟩)
  have hsz : ∀ (us : List Value) (o : Nat) (w : World), (w.setCells b o us).heap.size = w.heap.size := by
    intro us
    induction us with
    | nil => intro o w; rfl
    | cons u us ih => intro o w; exact (ih (o + 1) _).trans (by simp [World.setCell])
  exact hsz us 0 w
theorem results_cell {fn : Func} {t : Tmp} {ty : TypeId} (h : fn.results = #[.cell t ty]) (tmps : Array Value) (P : Program) (w : World) (b : Nat) (cs : List Value) (d : TypeDesc)
    (ht : tmps.getD t undef = .pointer (some ⟨b, 0, none⟩)) (hc : w.rangeAt b 0 cs) (hu : P.underlying ty = some d) (hd : d.isRow = true) (hi : (P.info? ty).map (·.size) = some cs.length) :
    (results fn tmps).run P w = .ok (.agg cs.toArray) w := by
  have hl := run_loadVar_mid (P := P) w b 0 ty cs d hc hu hd hi
  simp only [results, h]
  simp [-Array.getD_eq_getD_getElem?, ht, asAddr, hl]
theorem results_ct {fn : Func} {t u : Tmp} {ty : TypeId} (h : fn.results = #[.cell t ty, .tmp u]) (tmps : Array Value) (P : Program) (w : World) (b : Nat) (cs : List Value) (d : TypeDesc)
    (ht : tmps.getD t undef = .pointer (some ⟨b, 0, none⟩)) (hc : w.rangeAt b 0 cs) (hu : P.underlying ty = some d) (hd : d.isRow = true) (hi : (P.info? ty).map (·.size) = some cs.length) :
    (results fn tmps).run P w = .ok (.tuple #[.agg cs.toArray, tmps.getD u undef]) w := by
  have hl := run_loadVar_mid (P := P) w b 0 ty cs d hc hu hd hi
  simp only [results, h]
  simp [-Array.getD_eq_getD_getElem?, ht, asAddr, hl]
theorem Row.heap {w w' : World} {b : Nat} {T : TypeId} {vs : List Value} (h : Row w b T vs) (he : w'.heap[b]? = w.heap[b]?) : Row w' b T vs := he.trans h
theorem VX.other {T : TypeId} {sz : Nat} {w wr w' : World} {v : Value} {n : Nat} {cs : List Value} (H : VX T sz w v n cs wr) (hb : Below w.heap.size w w') (hk : ∀ g, v.ownBlock = some g → w'.heap[g]? = wr.heap[g]?) : VX T sz w v n cs w' := by
  refine ⟨⟨H.o.1, ?_⟩, hb⟩
  rcases H.o.2 with h0 | ⟨g, cap, cur, h1, h2, h3, h4⟩
  · exact .inl h0
  · exact .inr ⟨g, cap, cur, h1, h2, (hk g (by rw [h1]; rfl)).trans h3, h4⟩
end Go.Proofs.YtcnkjgjimcddiaaGreatDoor
