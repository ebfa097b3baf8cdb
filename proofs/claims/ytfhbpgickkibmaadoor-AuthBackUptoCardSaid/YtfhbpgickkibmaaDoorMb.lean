/- Slices of structs and of texts that the call made; one more element. -/
import Derived.Test.YtfhbpgickkibmaaDoorMa
import Derived.Test.YtfhbpgickkibmaaDoorPd
namespace Go.Proofs.YtfhbpgickkibmaaDoor
open Go.RowKit

/-- A slice that the call made: its cells. -/
structure VX (T : TypeId) (sz : Nat) (w : World) (v : Value) (n : Nat) (cs : List Value) (wr : World) : Prop where
  o : wr.ownsRow w.heap.size T sz v n cs
  bw : Below w.heap.size w wr
theorem VX.nil (T : TypeId) (sz : Nat) (w : World) : VX T sz w (.slice none 0 0) 0 [] w := ⟨World.ownsRow_nil _ _ _ _, Below.refl _ _⟩
theorem VX.step {T : TypeId} {sz : Nat} {w wr w' : World} {v : Value} {n : Nat} {cs : List Value} (H : VX T sz w v n cs wr) (hb : Below wr.heap.size wr w') : VX T sz w v n cs w' := by
  refine ⟨⟨H.o.1, ?_⟩, H.bw.trans (hb.mono H.bw.size)⟩
  rcases H.o.2 with h0 | ⟨g, cap, cur, h1, h2, h3, h4⟩
  · exact .inl h0
  · exact .inr ⟨g, cap, cur, h1, h2, (hb.block g (lt_of_block h3)).trans h3, h4⟩
theorem VX.drewN {T : TypeId} {sz : Nat} {w wr : World} {v : Value} {n : Nat} {cs : List Value} (H : VX T sz w v n cs wr) (q : Nat) : VX T sz w v n cs (wr.drewN q) := H.step ⟨rfl, rfl, rfl, Nat.le_refl _, fun _ _ => rfl⟩
theorem wpList_pushT {T ST : TypeId} {sz bytes : Nat} {z : Value} {w wr : World} {ops : Array Oper} {rest : List Oper} {o : Oper} {a : Act} {Q : Exit → Act → World → Prop} (hgd : o.guard = none) (s x : Operand)
    (ho : o.op = .call { callee := .builtin .append, args := #[s, x], argTypes := #[ST, ST] }) (hT : Tryd.prog.underlying ST = some (.slice T)) (hinfo : ∃ i, Tryd.prog.info? T = some i ∧ i.zero = some z ∧ i.size = sz ∧ i.bytes = bytes) (hzs : z.cells.size = sz) (hpos : 0 < sz) (hby : bytes ≤ 1000)
    (v : Value) (n : Nat) (xs : List Value) (hs : a.eval s = v) (H : VX T sz w v n xs wr) (cs : List Value) (hcs : cs.length = sz) (h1 : ∀ u ∈ cs, u.oneCell' = true) (hx : a.eval x = .slice (some ⟨wr.heap.size, 0, none⟩) 1 1) (hb : n + 1 ≤ 16777216)
    (h : ∀ v' w', Hid (VX T sz w v' (n + 1) (xs ++ cs) w') → wpList Tryd.prog ops Q rest (a.put o.dst v') w') : wpList Tryd.prog ops Q (o :: rest) a (wr.alloc (.cells cs.toArray T)) := by
  obtain ⟨i, hi, hz, hsz, hbt⟩ := hinfo
  have hbase : w.heap.size ≤ (wr.alloc (.cells cs.toArray T)).heap.size := by have := H.bw.size; simp; omega
  refine wpList_append_own _ hgd s x ST ho w.heap.size T i z sz bytes hT hi hz hsz hbt hzs hpos v n xs hs (H.o.alloc _) ⟨wr.heap.size, 0, none⟩ 1 1 cs hx (by rw [Nat.one_mul]; exact hcs) (fun j u hu => ?_) h1 (by unfold maxLen; omega) ?_ hbase ?_
  · rw [Addr.add_mid, Nat.zero_add]
    exact ((Row.new wr T cs).cell j).trans hu
  · have : (n + 1) * bytes ≤ 16777216 * 1000 := Nat.mul_le_mul hb hby
    omega
  · intro v' w' h2 h3 _
    refine h v' w' (Lib.hid ⟨h2, (H.bw.alloc H.bw.size _).grown h3 hbase (own_block H.o)⟩)
def pcs (ps : List (Nat × List Int)) : List Value := ps.flatMap fun p => [.int .i64 (p.1 : Int), .string (strOfNums p.2)]
theorem pcs_snoc (ps : List (Nat × List Int)) (p : Nat × List Int) : pcs (ps ++ [p]) = pcs ps ++ [.int .i64 (p.1 : Int), .string (strOfNums p.2)] := by simp [pcs]
abbrev PX (w : World) (v : Value) (ps : List (Nat × List Int)) (wr : World) : Prop := VX 75 2 w v ps.length (pcs ps) wr
theorem infoP : ∃ i, Tryd.prog.info? 75 = some i ∧ i.zero = some (.agg #[.int .i64 0, .string ⟨#[]⟩]) ∧ i.size = 2 ∧ i.bytes = 24 := by
  have h : (Tryd.prog.info? 75).map (fun i => (i.size, i.zero, i.bytes)) = some (2, some (.agg #[.int .i64 0, .string ⟨#[]⟩]), 24) := by kernel_rfl
  rw [Option.map_eq_some_iff] at h
  obtain ⟨i, hi, he⟩ := h
  injection he with h1 h2
  injection h2 with h2 h3
  exact ⟨i, hi, h2, h1, h3⟩
theorem wpList_pushP {w wr : World} {ops : Array Oper} {rest : List Oper} {o : Oper} {a : Act} {Q : Exit → Act → World → Prop} (hgd : o.guard = none) (s x : Operand)
    (ho : o.op = .call { callee := .builtin .append, args := #[s, x], argTypes := #[70, 70] }) (v : Value) (ps : List (Nat × List Int)) (hs : a.eval s = v) (H : PX w v ps wr) (p : Nat × List Int) (hx : a.eval x = .slice (some ⟨wr.heap.size, 0, none⟩) 1 1) (hb : ps.length + 1 ≤ 16777216)
    (h : ∀ v' w' L, Hid (L = ps ++ [p]) → L.length = ps.length + 1 → Hid (PX w v' L w') → wpList Tryd.prog ops Q rest (a.put o.dst v') w') : wpList Tryd.prog ops Q (o :: rest) a (wr.alloc (.cells #[.int .i64 (p.1 : Int), .string (strOfNums p.2)] 75)) :=
  wpList_pushT hgd s x ho Tryd.underlying70 infoP rfl (by omega) (by omega) v ps.length (pcs ps) hs H [.int .i64 (p.1 : Int), .string (strOfNums p.2)] rfl (fun u hu => by
    simp at hu
    rcases hu with rfl | rfl <;> rfl) hx hb fun v' w' h1 => h v' w' (ps ++ [p]) (Lib.hid rfl) (by simp) (Lib.hid (by
      have := h1.out
      unfold PX
      rw [pcs_snoc, List.length_append]
      exact this))
theorem infoS : ∃ i, Tryd.prog.info? 9 = some i ∧ i.zero = some (.string ⟨#[]⟩) ∧ i.size = 1 ∧ i.bytes = 16 := by
  have h : (Tryd.prog.info? 9).map (fun i => (i.size, i.zero, i.bytes)) = some (1, some (.string ⟨#[]⟩), 16) := by kernel_rfl
  rw [Option.map_eq_some_iff] at h
  obtain ⟨i, hi, he⟩ := h
  injection he with h1 h2
  injection h2 with h2 h3
  exact ⟨i, hi, h2, h1, h3⟩
abbrev TX (w : World) (v : Value) (zs : List ByteArray) (wr : World) : Prop := VX 9 1 w v zs.length (zs.map Value.string) wr
theorem wpList_pushS {w wr : World} {ops : Array Oper} {rest : List Oper} {o : Oper} {a : Act} {Q : Exit → Act → World → Prop} (hgd : o.guard = none) (s x : Operand)
    (ho : o.op = .call { callee := .builtin .append, args := #[s, x], argTypes := #[42, 42] }) (v : Value) (ps : List ByteArray) (hs : a.eval s = v) (H : TX w v ps wr) (p : ByteArray) (hx : a.eval x = .slice (some ⟨wr.heap.size, 0, none⟩) 1 1) (hb : ps.length + 1 ≤ 16777216)
    (h : ∀ v' w' L, Hid (L = ps ++ [p]) → L.length = ps.length + 1 → Hid (TX w v' L w') → wpList Tryd.prog ops Q rest (a.put o.dst v') w') : wpList Tryd.prog ops Q (o :: rest) a (wr.alloc (.cells #[.string p] 9)) :=
  wpList_pushT hgd s x ho Tryd.underlying42 infoS rfl (by omega) (by omega) v ps.length (ps.map Value.string) hs H [.string p] rfl (fun u hu => by
    simp at hu
    rcases hu with rfl; rfl) hx hb fun v' w' h1 => h v' w' (ps ++ [p]) (Lib.hid rfl) (by simp) (Lib.hid (by
      have := h1.out
      unfold TX
      rw [List.map_append, List.length_append]
      exact this))
/-- A parameter: name, value, has. -/
structure Prm where
  n : List Int
  v : List Int
  h : Bool
  deriving DecidableEq
def prmC (p : Prm) : List Value := [.string (strOfNums p.n), .string (strOfNums p.v), .bool p.h]
def prms (ps : List Prm) : List Value := ps.flatMap prmC
theorem prms_snoc (ps : List Prm) (p : Prm) : prms (ps ++ [p]) = prms ps ++ prmC p := by simp [prms]
theorem infoPrm : ∃ i, Tryd.prog.info? 82 = some i ∧ i.zero = some (.agg #[.string ⟨#[]⟩, .string ⟨#[]⟩, .bool false]) ∧ i.size = 3 ∧ i.bytes = 40 := by
  have h : (Tryd.prog.info? 82).map (fun i => (i.size, i.zero, i.bytes)) = some (3, some (.agg #[.string ⟨#[]⟩, .string ⟨#[]⟩, .bool false]), 40) := by kernel_rfl
  rw [Option.map_eq_some_iff] at h
  obtain ⟨i, hi, he⟩ := h
  injection he with h1 h2
  injection h2 with h2 h3
  exact ⟨i, hi, h2, h1, h3⟩
abbrev RX (w : World) (v : Value) (ps : List Prm) (wr : World) : Prop := VX 82 3 w v ps.length (prms ps) wr
theorem wpList_pushR {w wr : World} {ops : Array Oper} {rest : List Oper} {o : Oper} {a : Act} {Q : Exit → Act → World → Prop} (hgd : o.guard = none) (s x : Operand)
    (ho : o.op = .call { callee := .builtin .append, args := #[s, x], argTypes := #[46, 46] }) (v : Value) (ps : List Prm) (hs : a.eval s = v) (H : RX w v ps wr) (p : Prm) (hx : a.eval x = .slice (some ⟨wr.heap.size, 0, none⟩) 1 1) (hb : ps.length + 1 ≤ 16777216)
    (h : ∀ v' w' L, Hid (L = ps ++ [p]) → L.length = ps.length + 1 → Hid (RX w v' L w') → wpList Tryd.prog ops Q rest (a.put o.dst v') w') : wpList Tryd.prog ops Q (o :: rest) a (wr.alloc (.cells #[.string (strOfNums p.n), .string (strOfNums p.v), .bool p.h] 82)) :=
  wpList_pushT hgd s x ho Tryd.underlying46 infoPrm rfl (by omega) (by omega) v ps.length (prms ps) hs H (prmC p) rfl (fun u hu => by
    simp [prmC] at hu
    rcases hu with rfl | rfl | rfl <;> rfl) hx hb fun v' w' h1 => h v' w' (ps ++ [p]) (Lib.hid rfl) (by simp) (Lib.hid (by
      have := h1.out
      unfold RX
      rw [prms_snoc, List.length_append]
      exact this))
theorem prms_len (ps : List Prm) : (prms ps).length = ps.length * 3 := by
  induction ps with
  | nil => rfl
  | cons p ps ih => rw [show prms (p :: ps) = prmC p ++ prms ps from rfl, List.length_append, ih]; simp [prmC]; omega
theorem pcs_len (ps : List (Nat × List Int)) : (pcs ps).length = ps.length * 2 := by
  induction ps with
  | nil => rfl
  | cons p ps ih => rw [show pcs (p :: ps) = [.int .i64 (p.1 : Int), .string (strOfNums p.2)] ++ pcs ps from rfl, List.length_append, ih]; simp; omega
theorem flat_at {α : Type} (f : α → List Value) (sz : Nat) (hf : ∀ x, (f x).length = sz) : ∀ (l : List α) (k j : Nat) (x : α), l[k]? = some x → j < sz → (l.flatMap f)[k * sz + j]? = (f x)[j]?
  | [], k, j, x, h, _ => by cases h
  | y :: l, 0, j, x, h, hj => by
    cases h
    rw [List.flatMap_cons, Nat.zero_mul, Nat.zero_add, List.getElem?_append_left (by rw [hf]; exact hj)]
  | y :: l, k + 1, j, x, h, hj => by
    rw [List.flatMap_cons, List.getElem?_append_right (by rw [hf, Nat.succ_mul]; omega), hf, show (k + 1) * sz + j - sz = k * sz + j by rw [Nat.succ_mul]; omega]
    exact flat_at f sz hf l k j x h hj
/-- The cells of a slice that the call made, where they lie. -/
theorem VX.form {T : TypeId} {sz : Nat} {w wr : World} {v : Value} {n : Nat} {cs : List Value} (H : VX T sz w v n cs wr) : (v = .slice none 0 0 ∧ n = 0 ∧ cs = []) ∨ ∃ g cap, v = .slice (some ⟨g, 0, none⟩) n cap ∧ n ≤ cap ∧ w.heap.size ≤ g ∧ g < wr.heap.size ∧ ∀ (j : Nat) u, cs[j]? = some u → wr.cell? ⟨g, j, none⟩ = some u := by
  have hl := H.o.1
  rcases H.o.2 with ⟨rfl, rfl⟩ | ⟨g, cap, cur, rfl, hb, hg, hc, _, hs, ht⟩
  · exact .inl ⟨rfl, rfl, List.eq_nil_of_length_eq_zero (by simpa using hl)⟩
  · refine .inr ⟨g, cap, rfl, hc, hb, lt_of_block hg, fun j u hx => ?_⟩
    rw [cell_of_row wr g j cur T (0, 0) hg]
    have hj : j < cs.length := (List.getElem?_eq_some_iff.1 hx).1
    have h2 : (cur.toList.take (n * sz))[j]? = cs[j]? := by rw [ht]
    rw [List.getElem?_take, if_pos (by omega), hx] at h2
    simpa using h2
end Go.Proofs.YtfhbpgickkibmaaDoor
