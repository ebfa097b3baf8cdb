/- Memory words: a block known whole, a slice of bytes, a slice of one's own. -/
import Derived.Test.YtcnkjgjimcddiaaGreatDoorCb
import Derived.Deep.RegionLaw
import Derived.Laws.BytesArg
import Derived.BigQuiet
import Derived.BigRegion
import Derived.Deep.DeepCutAuto
import Derived.Deep.MidRow
import Derived.Deep.QuietTactic
import Derived.Deep.RegionHeld3
import Derived.Laws.AppendOwnNone
import Derived.Laws.MakeOwn
import Derived.StillTailTactics
namespace Go.Proofs.YtcnkjgjimcddiaaGreatDoor
open Go.RowKit

def Row (w : World) (b : Nat) (T : TypeId) (vs : List Value) : Prop := w.heap[b]? = some (.cells vs.toArray T (0, 0))
section
variable {w w1 : World} {b : Nat} {T : TypeId} {vs : List Value}
theorem Row.lt (h : Row w b T vs) : b < w.heap.size := by
  rcases Nat.lt_or_ge b w.heap.size with h1 | h1
  · exact h1
  · unfold Row at h; rw [Array.getElem?_eq_none h1] at h; cases h
theorem Row.cell (h : Row w b T vs) (i : Nat) : w.cell? ⟨b, i, none⟩ = vs[i]? := by
  rw [cell_of_row w b i _ _ (0, 0) h]; simp
theorem Row.frozen (h : Row w b T vs) (i : Nat) : w.frozen? ⟨b, i, none⟩ = false := by unfold Row at h; simp [World.frozen?, h]
theorem Row.of (h : Row w b T vs) (he : w1.heap[b]? = w.heap[b]?) : Row w1 b T vs := he.trans h
theorem Row.below (h : Row w b T vs) (hb : Below w.heap.size w w1) : Row w1 b T vs := h.of (hb.block b h.lt)
theorem Row.alloc (h : Row w b T vs) (o : Obj) : Row (w.alloc o) b T vs := h.below ((Below.refl _ _).alloc (Nat.le_refl _) o)
theorem Row.drew (h : Row w b T vs) : Row w.drew b T vs := h
theorem Row.drewN (h : Row w b T vs) (n : Nat) : Row (w.drewN n) b T vs := h
theorem Row.set (h : Row w b T vs) (i : Nat) (u : Value) : Row (w.setCell ⟨b, i, none⟩ u) b T (vs.set i u) := by
  unfold Row at h ⊢
  simp [World.setCell, Array.getElem?_modify, h]
theorem Row.setOther (h : Row w b T vs) {p i : Nat} (hp : p ≠ b) (u : Value) : Row (w.setCell ⟨p, i, none⟩ u) b T vs := h.of (Below.heap_setCell w _ u b (Ne.symm hp))
theorem Row.new (w : World) (T : TypeId) (vs : List Value) : Row (w.alloc (.cells vs.toArray T)) w.heap.size T vs := heap_alloc_new w _
end
def U8 (l : List Int) : List Value := l.map (Value.int .u8)
theorem U8_get {l : List Int} {i : Nat} {x : Int} (h : l[i]? = some x) : (U8 l)[i]? = some (.int .u8 x) := by simp [U8, h]
theorem Row.there {w : World} {b : Nat} {T : TypeId} {vs : List Value} (h : Row w b T vs) : w.there b 0 vs.length := fun j hj => by
  rw [Nat.zero_add, h.cell j, List.getElem?_eq_getElem hj]
  exact ⟨rfl, h.frozen j⟩
theorem Row.range {w : World} {b : Nat} {T : TypeId} {vs : List Value} (h : Row w b T vs) : w.rangeAt b 0 vs := fun j v hv => by
  rw [Nat.zero_add, h.cell j, hv]
theorem Row.setCells {b : Nat} {T : TypeId} : ∀ (us old pre post : List Value) (w : World), Row w b T (pre ++ old ++ post) → old.length = us.length → Row (w.setCells b pre.length us) b T (pre ++ us ++ post)
  | [], old, pre, post, w, h, he => by
    obtain rfl : old = [] := List.eq_nil_of_length_eq_zero he
    exact h
  | u :: us, [], pre, post, w, h, he => by cases he
  | u :: us, o :: old, pre, post, w, h, he => by
    have h1 := h.set pre.length u
    have e : (pre ++ o :: old ++ post).set pre.length u = (pre ++ [u]) ++ old ++ post := by simp [List.set_append]
    rw [e] at h1
    have h2 := Row.setCells us old (pre ++ [u]) post _ h1 (by simpa using he)
    rw [World.setCells]
    simpa using h2
theorem Row.setAll {w : World} {b : Nat} {T : TypeId} {vs : List Value} (h : Row w b T vs) (us : List Value) (he : vs.length = us.length) : Row (w.setCells b 0 us) b T us := by
  have h2 := Row.setCells us vs [] [] w (by simpa using h) he
  simpa using h2
theorem below_setCells {N b : Nat} {w : World} (hb : N ≤ b) : ∀ (us : List Value) (o : Nat) (w1 : World), Below N w w1 → Below N w (w1.setCells b o us)
  | [], _, _, h => h
  | u :: us, o, w1, h => below_setCells hb us (o + 1) _ (h.setCell (by exact hb) u)
def Bs (w : World) (B : Nat) (A : Option Addr) (xs : List Int) : Prop := 0 < xs.length → ∃ ad, A = some ad ∧ ad.block < B ∧ ∀ j x, xs[j]? = some x → w.cell? (ad.add j) = some (.int .u8 x)
theorem add_block (a : Addr) (n : Nat) : (a.add n).block = a.block := by unfold Addr.add; split <;> rfl
section
variable {w w' : World} {B : Nat} {A : Option Addr} {xs : List Int}
theorem Bs.nil : Bs w B A [] := fun h => absurd h (by simp)
theorem Bs.keep (h : Bs w B A xs) (hk : ∀ p : Addr, p.block < B → w'.cell? p = w.cell? p) : Bs w' B A xs := fun hn => by
  obtain ⟨ad, e, hb, hc⟩ := h hn
  exact ⟨ad, e, hb, fun j u hu => (hk _ (by rw [add_block]; exact hb)).trans (hc j u hu)⟩
theorem Bs.below (h : Bs w B A xs) (hb : Below B w w') : Bs w' B A xs := h.keep fun _ hp => hb.cell hp
theorem Bs.up (h : Bs w B A xs) {B' : Nat} (hB : B ≤ B') : Bs w B' A xs := fun hn => by
  obtain ⟨ad, e, hb, hc⟩ := h hn
  exact ⟨ad, e, Nat.lt_of_lt_of_le hb hB, hc⟩
end
theorem wpList_value {P : Program} {ops : Array Oper} {rest : List Oper} {op : Oper} {a : Act} {w : World} {Q : Exit → Act → World → Prop} (hgd : op.guard = none) (v : Value) (w' : World)
    (hrun : (execOp a.eval op).run P w = .ok (.value v) w') (h : wpList P ops Q rest (a.put op.dst v) w') : wpList P ops Q (op :: rest) a w :=
  wpList_plain hgd fun _ hK => by
    unfold Oper.wp
    simp only [hrun]
    exact hK _ _ h
theorem exec_copy {P : Program} {ρ : Operand → Value} {op : Oper} {d s : Operand} {dT sT : TypeId} {vd vs v : Value} {w w' : World} (ho : op.op = .call { callee := .builtin .copy, args := #[d, s], argTypes := #[dT, sT] })
    (hd : ρ d = vd) (hs : ρ s = vs) (hrun : (Builtin.copy_ #[dT, sT] op.type #[vd, vs]).run P w = .ok v w') : (execOp ρ op).run P w = .ok (.value v) w' := by
  unfold execOp
  simp only [ho, resolve, invoke, builtin, Sem.run_bind, Sem.run_pure, Result.andThen_ok, List.map_toArray, List.map_cons, List.map_nil, hd, hs, hrun]
theorem info5z : (Tryz.prog.info? 5).map (fun i => (i.size, i.zero, i.bytes)) = some (1, some (.int .u8 0), 1) := by kernel_rfl
theorem i5all : ∃ i, Tryz.prog.info? 5 = some i ∧ i.zero = some (.int .u8 0) ∧ i.size = 1 ∧ i.bytes = 1 := by
  have h := info5z
  rw [Option.map_eq_some_iff] at h
  obtain ⟨i, hi, he⟩ := h
  injection he with h1 h2
  injection h2 with h2 h3
  exact ⟨i, hi, h2, h1, h3⟩
theorem grown_refl (w : World) (row : Option Nat) : w.grownBy w row := ⟨rfl, rfl, rfl, Nat.le_refl _, fun _ _ _ => rfl⟩
theorem wpList_append_bytes {w : World} {ops : Array Oper} {rest : List Oper} {o : Oper} {a : Act} {Q : Exit → Act → World → Prop} (hgd : o.guard = none) (s x : Operand)
    (ho : o.op = .call { callee := .builtin .append, args := #[s, x], argTypes := #[49, 49] }) (base : Nat) (v : Value) (n : Nat) (xs : List Int) (hs : a.eval s = v) (hown : w.ownsRow base 5 1 v n (U8 xs))
    (A : Option Addr) (m c : Nat) (ys : List Int) (hx : a.eval x = .slice A m c) (hB : Bs w w.heap.size A ys) (hm : ys.length = m) (hnil : A = none → m = 0 ∧ c = 0) (hbound : n + m ≤ 16777216) (hbase : base ≤ w.heap.size)
    (h : ∀ v' w', w'.ownsRow base 5 1 v' (n + m) (U8 (xs ++ ys)) → w.grownBy w' v.ownBlock → wpList Tryz.prog ops Q rest (a.put o.dst v') w') : wpList Tryz.prog ops Q (o :: rest) a w := by
  obtain ⟨i, hi, hz, hsz, hby⟩ := i5all
  cases A with
  | none =>
    obtain ⟨rfl, rfl⟩ := hnil rfl
    obtain rfl : ys = [] := List.eq_nil_of_length_eq_zero hm
    refine wpList_append_own_none hgd s x 49 ho base 5 i 1 Tryz.underlying49 hi v n (U8 xs) hs hown hx ?_
    refine h v w ?_ (grown_refl _ _)
    rw [List.append_nil]
    exact hown
  | some ad =>
    refine wpList_append_own w hgd s x 49 ho base 5 i (.int .u8 0) 1 1 Tryz.underlying49 hi hz hsz hby rfl (by decide) v n (U8 xs) hs hown ad m c (U8 ys) hx (by simp [U8, hm]) (fun j u hu => ?_) (fun u hu => ?_) (by unfold maxLen; omega) (by omega) hbase ?_
    · unfold U8 at hu
      rw [List.getElem?_map, Option.map_eq_some_iff] at hu
      obtain ⟨y, hy, rfl⟩ := hu
      have hj : j < ys.length := (List.getElem?_eq_some_iff.1 hy).1
      obtain ⟨ad', e, _, hc⟩ := hB (by omega)
      cases e
      exact hc j y hy
    · obtain ⟨y, _, rfl⟩ := List.mem_map.1 hu; rfl
    · intro v' w' h1 h2 _
      refine h v' w' ?_ h2
      unfold U8 at h1 ⊢
      rwa [← List.map_append] at h1
theorem conv_owned {w : World} {base : Nat} {v : Value} {n : Nat} {xs : List Int} (h : w.ownsRow base 5 1 v n (U8 xs)) : (convert 49 9 v).run Tryz.prog w = .ok (.string (strOfNums xs)) w := by
  have hl : xs.length = n := by have := h.1; simpa [U8] using this
  rcases h.2 with ⟨rfl, rfl⟩ | ⟨g, cap, cur, rfl, hb, hg, hc, _, hs, ht⟩
  · obtain rfl : xs = [] := List.eq_nil_of_length_eq_zero hl
    exact run_convert_bytes_nil w 49 5 Tryz.underlying49 Tryz.underlying5 0 0 9 Tryz.underlying9
  · refine run_convert_bytes_arg (P := Tryz.prog) w 49 5 Tryz.underlying49 Tryz.underlying5 g 0 n cap xs hl (fun j hj => ?_) 9 Tryz.underlying9
    rw [Nat.zero_add, cell_of_row w g j cur 5 (0, 0) hg]
    have h2 : (cur.toList.take (n * 1))[j]? = (U8 xs)[j]? := by rw [ht]
    rw [List.getElem?_take, if_pos (by omega), U8_get (getD_some (by omega))] at h2
    simpa using h2
theorem own_block {w : World} {base : Nat} {e : TypeId} {size : Nat} {v : Value} {n : Nat} {xs : List Value} (h : w.ownsRow base e size v n xs) : ∀ k, v.ownBlock = some k → base ≤ k := fun k hk => by
  rcases h.2 with ⟨rfl, _⟩ | ⟨g, cap, cur, rfl, hb, _⟩
  · cases hk
  · simp [Value.ownBlock] at hk; omega
structure OX (w : World) (v : Value) (xs : List Int) (wr : World) : Prop where
  o : wr.ownsRow w.heap.size 5 1 v xs.length (U8 xs)
  bw : Below w.heap.size w wr
theorem OX.nil (w : World) : OX w (.slice none 0 0) [] w := ⟨World.ownsRow_nil _ _ _ _, Below.refl _ _⟩
theorem one_bs (wr : World) (x : Int) : Bs (wr.alloc (.cells #[.int .u8 x] 5)) (wr.alloc (.cells #[.int .u8 x] 5)).heap.size (some ⟨wr.heap.size, 0, none⟩) [x] := fun _ => ⟨_, rfl, by simp, fun j y hy => by
  rw [Addr.add_mid, Nat.zero_add]
  exact ((Row.new wr 5 (U8 [x])).cell j).trans (U8_get hy)⟩
theorem OX.push {w wr w1 : World} {v v1 : Value} {xs : List Int} {x : Int} (H : OX w v xs wr) (o1 : w1.ownsRow w.heap.size 5 1 v1 (xs.length + 1) (U8 (xs ++ [x]))) (hg : (wr.alloc (.cells #[.int .u8 x] 5)).grownBy w1 v.ownBlock) : OX w v1 (xs ++ [x]) w1 :=
  ⟨by simpa using o1, (H.bw.alloc H.bw.size _).grown hg (by have := H.bw.size; simp; omega) (own_block H.o)⟩
theorem no_nil {ad : Addr} {p : Prop} : some ad = none → p := fun h => by cases h
theorem OX.base {w wr : World} {v : Value} {xs : List Int} (H : OX w v xs wr) (o : Obj) : w.heap.size ≤ (wr.alloc o).heap.size := by have := H.bw.size; simp; omega
/-- 'append(s, y)', y one byte. -/
theorem wpList_push1 {w wr : World} {ops : Array Oper} {rest : List Oper} {o : Oper} {a : Act} {Q : Exit → Act → World → Prop} (hgd : o.guard = none) (s x : Operand)
    (ho : o.op = .call { callee := .builtin .append, args := #[s, x], argTypes := #[49, 49] }) (v : Value) (xs : List Int) (hs : a.eval s = v) (H : OX w v xs wr) (y : Int) (hx : a.eval x = .slice (some ⟨wr.heap.size, 0, none⟩) 1 1) (hb : xs.length + 1 ≤ 16777216)
    (h : ∀ v' w' L, Hid (L = xs ++ [y]) → L.length = xs.length + 1 → Hid (OX w v' L w') → wpList Tryz.prog ops Q rest (a.put o.dst v') w') : wpList Tryz.prog ops Q (o :: rest) a (wr.alloc (.cells #[.int .u8 y] 5)) :=
  wpList_append_bytes hgd s x ho w.heap.size v xs.length xs hs (H.o.alloc _) (some ⟨wr.heap.size, 0, none⟩) 1 1 [y] hx (one_bs _ _) rfl no_nil hb (H.base _) fun v' w' o1 g1 => h v' w' _ (Lib.hid rfl) (by simp) (Lib.hid (H.push o1 g1))
theorem OX.drewN {w wr : World} {v : Value} {xs : List Int} (H : OX w v xs wr) (q : Nat) : OX w v xs (wr.drewN q) := ⟨H.o, ⟨H.bw.os, H.bw.tape, H.bw.output, H.bw.size, H.bw.block⟩⟩
end Go.Proofs.YtcnkjgjimcddiaaGreatDoor
