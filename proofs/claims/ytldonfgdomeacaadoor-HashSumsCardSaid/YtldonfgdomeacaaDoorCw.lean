/- Words for memory; the relations of process's loops. -/
import Derived.Test.YtldonfgdomeacaaDoorB
import Derived.Deep.RegionHeld3
import Derived.Deep.DeepCutAuto
import Derived.Deep.MidRow
import Derived.StillTailTactics
import Derived.BigRegion
namespace Go.Proofs.YtldonfgdomeacaaDoor
open Go.RowKit

/-- Block b holds the values vs. -/
def Row (w : World) (b : Nat) (T : TypeId) (vs : List Value) : Prop := w.heap[b]? = some (.cells vs.toArray T (0, 0))
section
variable {w w1 : World} {b : Nat} {T : TypeId} {vs : List Value}
theorem Row.lt (h : Row w b T vs) : b < w.heap.size := by
  rcases Nat.lt_or_ge b w.heap.size with h1 | h1
  · exact h1
  · unfold Row at h; rw [Array.getElem?_eq_none h1] at h; cases h
theorem Row.cell (h : Row w b T vs) (i : Nat) : w.cell? ⟨b, i, none⟩ = vs[i]? := by
  rw [cell_of_row w b i _ _ (0, 0) h]; simp
theorem Row.frozen (h : Row w b T vs) (i : Nat) : w.frozen? ⟨b, i, none⟩ = false := by unfold Row at h; simp [World.frozen?, h]
theorem Row.of (h : Row w b T vs) (he : w1.heap[b]? = w.heap[b]?) : Row w1 b T vs := he.trans h
theorem Row.below (h : Row w b T vs) (hb : Below w.heap.size w w1) : Row w1 b T vs := h.of (hb.block b h.lt)
theorem Row.alloc (h : Row w b T vs) (o : Obj) : Row (w.alloc o) b T vs := h.below ((Below.refl _ _).alloc (Nat.le_refl _) o)
theorem Row.drew (h : Row w b T vs) : Row w.drew b T vs := h
theorem Row.drewN (h : Row w b T vs) (n : Nat) : Row (w.drewN n) b T vs := h
theorem Row.set (h : Row w b T vs) (i : Nat) (u : Value) : Row (w.setCell ⟨b, i, none⟩ u) b T (vs.set i u) := by
  unfold Row at h ⊢
  simp [World.setCell, Array.getElem?_modify, h]
theorem Row.setOther (h : Row w b T vs) {p i : Nat} (hp : p ≠ b) (u : Value) : Row (w.setCell ⟨p, i, none⟩ u) b T vs := h.of (Below.heap_setCell w _ u b (Ne.symm hp))
theorem Row.new (w : World) (T : TypeId) (vs : List Value) : Row (w.alloc (.cells vs.toArray T)) w.heap.size T vs := heap_alloc_new w _
end
def U32 (l : List Int) : List Value := l.map (Value.int .u32)
def U8 (l : List Int) : List Value := l.map (Value.int .u8)
def stV (s : St) : Array Value := #[.int .u32 s.a, .int .u32 s.b, .int .u32 s.c, .int .u32 s.d, .int .u32 s.e, .int .u32 s.f, .int .u32 s.g, .int .u32 s.h]

/-- What holds in the first loop of process. -/
structure P1 (w : World) (s : St) (bs : List Int) (i : Nat) (wr : World) : Prop where
  r2 : Row wr w.heap.size 28 (stV s).toList
  r3 : Row wr (w.heap.size + 1) 30 (U8 bs)
  r4 : Row wr (w.heap.size + 1 + 1) 28 (U32 (List.replicate 8 0))
  r5 : Row wr (w.heap.size + 1 + 1 + 1) 51 (U32 (schedTo bs i ++ List.replicate (64 - i) 0))
  bw : Below w.heap.size w wr
def P1R (w : World) (s : St) (bs : List Int) (v : Value) (wr : World) : Prop := ∃ i : Nat, i ≤ 64 ∧ v = .int .i64 i ∧ P1 w s bs i wr
theorem schedTo_length (bs : List Int) : ∀ i, (schedTo bs i).length = i
  | 0 => rfl
  | i + 1 => by simp [schedTo, schedTo_length bs i]
theorem U32_get {l : List Int} {i : Nat} {x : Int} (h : l[i]? = some x) : (U32 l)[i]? = some (.int .u32 x) := by simp [U32, h]
theorem U8_get {l : List Int} {i : Nat} {x : Int} (h : l[i]? = some x) : (U8 l)[i]? = some (.int .u8 x) := by simp [U8, h]
theorem getD_some {l : List Int} {i : Nat} (h : i < l.length) : l[i]? = some (l.getD i 0) := by
  rw [List.getD_eq_getElem?_getD, List.getElem?_eq_getElem h]; rfl
theorem sched_set (bs : List Int) {i : Nat} (hi : i < 64) (x : Int) (hx : x = nextW bs (schedTo bs i) i) : (U32 (schedTo bs i ++ List.replicate (64 - i) 0)).set i (.int .u32 x) = U32 (schedTo bs (i + 1) ++ List.replicate (64 - (i + 1)) 0) := by
  subst hx
  unfold U32
  rw [← List.map_set, List.set_append_right _ _ (by rw [schedTo_length]; omega), schedTo_length, Nat.sub_self]
  obtain ⟨m, hm⟩ : ∃ m, 64 - i = m + 1 := ⟨63 - i, by omega⟩
  rw [hm, show 64 - (i + 1) = m by omega, List.replicate_succ, List.set_cons_zero, schedTo, List.append_assoc]
  rfl

def Bytes (bs : List Int) : Prop := bs.length = 64 ∧ ∀ x ∈ bs, 0 ≤ x ∧ x < 256
theorem Bytes.at_ {bs : List Int} (h : Bytes bs) {i : Nat} (hi : i < 64) : bs[i]? = some (bs.getD i 0) ∧ 0 ≤ bs.getD i 0 ∧ bs.getD i 0 < 256 := by
  have h1 : bs[i]? = some (bs.getD i 0) := getD_some (by rw [h.1]; exact hi)
  exact ⟨h1, h.2 _ (List.mem_of_getElem? h1)⟩

theorem or_nat {a b : Int} (i m x y : Nat) (hm : m = 2 ^ i) (ha : a = (x * m : Nat)) (hb : b = (y : Nat)) (hy : y < m) (hx : x * m < 4294967296) (hy2 : y < 4294967296) : bits .or .u32 a b = a + b := by
  subst ha hb
  rw [u32_or_nat _ _ hx hy2, nat_join i _ _ (by rw [hm]; exact Nat.mul_mod_left _ _) (by rw [← hm]; exact hy)]
  exact Int.natCast_add _ _
theorem word_or {x0 x1 x2 x3 : Int} (p0 : 0 ≤ x0) (p1 : x0 < 256) (p2 : 0 ≤ x1) (p3 : x1 < 256) (p4 : 0 ≤ x2) (p5 : x2 < 256) (p6 : 0 ≤ x3) (p7 : x3 < 256) :
    bits .or .u32 (bits .or .u32 (bits .or .u32 (x0 * 16777216) (x1 * 65536)) (x2 * 256)) x3 = x0 * 16777216 + x1 * 65536 + x2 * 256 + x3 := by
  obtain ⟨y0, rfl⟩ := Int.eq_ofNat_of_zero_le p0
  obtain ⟨y1, rfl⟩ := Int.eq_ofNat_of_zero_le p2
  obtain ⟨y2, rfl⟩ := Int.eq_ofNat_of_zero_le p4
  obtain ⟨y3, rfl⟩ := Int.eq_ofNat_of_zero_le p6
  rw [or_nat (a := (y0 : Int) * 16777216) (b := (y1 : Int) * 65536) 24 16777216 y0 (y1 * 65536) (by decide) (by omega) (by omega) (by omega) (by omega) (by omega)]
  rw [or_nat (a := (y0 : Int) * 16777216 + (y1 : Int) * 65536) (b := (y2 : Int) * 256) 16 65536 (y0 * 256 + y1) (y2 * 256) (by decide) (by omega) (by omega) (by omega) (by omega) (by omega)]
  rw [or_nat (a := (y0 : Int) * 16777216 + (y1 : Int) * 65536 + (y2 : Int) * 256) (b := (y3 : Int)) 8 256 (y0 * 65536 + y1 * 256 + y2) y3 (by decide) (by omega) (by omega) (by omega) (by omega) (by omega)]

theorem P1.store {w wr : World} {s : St} {bs : List Int} {i : Nat} (hP : P1 w s bs i wr) (hlt : i < 64) {x : Int} (hx : x = nextW bs (schedTo bs i) i) : P1 w s bs (i + 1) (wr.setCell ⟨w.heap.size + 1 + 1 + 1, i, none⟩ (.int .u32 x)) :=
  ⟨hP.r2.setOther (by omega) _, hP.r3.setOther (by omega) _, hP.r4.setOther (by omega) _, by
    have h := hP.r5.set i (.int .u32 x)
    rw [sched_set bs hlt x hx] at h
    exact h, hP.bw.setCell (by simp; omega) _⟩
theorem P1.drew {w wr : World} {s : St} {bs : List Int} {i : Nat} (h : P1 w s bs i wr) : P1 w s bs i wr.drew := ⟨h.r2, h.r3, h.r4, h.r5, h.bw.drew⟩
theorem P1.drewN {w wr : World} {s : St} {bs : List Int} {i : Nat} (h : P1 w s bs i wr) (n : Nat) : P1 w s bs i (wr.drewN n) := ⟨h.r2, h.r3, h.r4, h.r5, ⟨h.bw.os, h.bw.tape, h.bw.output, h.bw.size, h.bw.block⟩⟩
def StR (s : St) : Prop := (0 ≤ s.a ∧ s.a < 4294967296) ∧ (0 ≤ s.b ∧ s.b < 4294967296) ∧ (0 ≤ s.c ∧ s.c < 4294967296) ∧ (0 ≤ s.d ∧ s.d < 4294967296) ∧ (0 ≤ s.e ∧ s.e < 4294967296) ∧ (0 ≤ s.f ∧ s.f < 4294967296) ∧ (0 ≤ s.g ∧ s.g < 4294967296) ∧ (0 ≤ s.h ∧ s.h < 4294967296)
/-- What holds in the second loop of process; B is the block of v. -/
structure P2 (w : World) (B : Nat) (s : St) (bs : List Int) (i : Nat) (wr : World) : Prop where
  r2 : Row wr w.heap.size 28 (stV s).toList
  r4 : Row wr (w.heap.size + 1 + 1) 28 (U32 (List.replicate 8 0))
  r5 : Row wr (w.heap.size + 1 + 1 + 1) 51 (U32 (schedTo bs 64))
  rv : Row wr B 28 (stV (roundTo Ks (schedTo bs 64) s i)).toList
  bw : Below w.heap.size w wr
  lo : w.heap.size + 1 + 1 + 1 < B
def P2R (w : World) (B : Nat) (s : St) (bs : List Int) (v : Value) (wr : World) : Prop := ∃ i : Nat, i ≤ 64 ∧ v = .int .i64 i ∧ P2 w B s bs i wr
theorem P1.two {w wr : World} {s : St} {bs : List Int} (h : P1 w s bs 64 wr) : P2 w wr.heap.size s bs 0 (wr.alloc (.cells (stV s) 28)) :=
  ⟨h.r2.alloc _, h.r4.alloc _, by have h5 := h.r5.alloc (.cells (stV s) 28); simpa using h5, Row.new wr 28 (stV s).toList, h.bw.alloc h.bw.size _, h.r5.lt⟩
theorem P2.store {w wr : World} {B : Nat} {s : St} {bs : List Int} {i : Nat} (h : P2 w B s bs i wr) (r' : St) (hr : roundTo Ks (schedTo bs 64) s (i + 1) = r') : P2 w B s bs (i + 1) ((((((((wr.setCell ⟨B, 0, none⟩ (.int .u32 r'.a)).setCell ⟨B, 1, none⟩ (.int .u32 r'.b)).setCell ⟨B, 2, none⟩ (.int .u32 r'.c)).setCell ⟨B, 3, none⟩ (.int .u32 r'.d)).setCell ⟨B, 4, none⟩ (.int .u32 r'.e)).setCell ⟨B, 5, none⟩ (.int .u32 r'.f)).setCell ⟨B, 6, none⟩ (.int .u32 r'.g)).setCell ⟨B, 7, none⟩ (.int .u32 r'.h)) := by
  have hlo := h.lo
  refine ⟨((((((((h.r2.setOther (by omega) _).setOther (by omega) _).setOther (by omega) _).setOther (by omega) _).setOther (by omega) _).setOther (by omega) _).setOther (by omega) _).setOther (by omega) _), ((((((((h.r4.setOther (by omega) _).setOther (by omega) _).setOther (by omega) _).setOther (by omega) _).setOther (by omega) _).setOther (by omega) _).setOther (by omega) _).setOther (by omega) _), ((((((((h.r5.setOther (by omega) _).setOther (by omega) _).setOther (by omega) _).setOther (by omega) _).setOther (by omega) _).setOther (by omega) _).setOther (by omega) _).setOther (by omega) _), ?_, ((((((((h.bw.setCell (p := ⟨B, 0, none⟩) (by have := h.lo; simp; omega) _).setCell (p := ⟨B, 1, none⟩) (by have := h.lo; simp; omega) _).setCell (p := ⟨B, 2, none⟩) (by have := h.lo; simp; omega) _).setCell (p := ⟨B, 3, none⟩) (by have := h.lo; simp; omega) _).setCell (p := ⟨B, 4, none⟩) (by have := h.lo; simp; omega) _).setCell (p := ⟨B, 5, none⟩) (by have := h.lo; simp; omega) _).setCell (p := ⟨B, 6, none⟩) (by have := h.lo; simp; omega) _).setCell (p := ⟨B, 7, none⟩) (by have := h.lo; simp; omega) _), hlo⟩
  rw [hr]
  exact ((((((((h.rv.set 0 (.int .u32 r'.a)).set 1 (.int .u32 r'.b)).set 2 (.int .u32 r'.c)).set 3 (.int .u32 r'.d)).set 4 (.int .u32 r'.e)).set 5 (.int .u32 r'.f)).set 6 (.int .u32 r'.g)).set 7 (.int .u32 r'.h))
theorem P2.drewN {w wr : World} {B : Nat} {s : St} {bs : List Int} {i : Nat} (h : P2 w B s bs i wr) (n : Nat) : P2 w B s bs i (wr.drewN n) := ⟨h.r2, h.r4, h.r5, h.rv, ⟨h.bw.os, h.bw.tape, h.bw.output, h.bw.size, h.bw.block⟩, h.lo⟩
/-- The slot holds this word, and the world has but drawn. -/
def Is (x : Int) (W : World) (v : Value) (wx : World) : Prop := v = .int .u32 x ∧ ∃ n, W.drewN n = wx
theorem t_flat (k w : Int) (s : St) : tOf k w s = (s.h + la1 s.e + bits .xor .u32 (bits .and .u32 s.e s.f) (bits .and .u32 (bits .xor .u32 IntKind.u32.max s.e) s.g) + k + w) % 4294967296 := by
  unfold tOf AD X AN NOT
  generalize bits .xor .u32 (bits .and .u32 s.e s.f) (bits .and .u32 (bits .xor .u32 IntKind.u32.max s.e) s.g) = x
  omega
theorem P2.stores {w wr : World} {B : Nat} {s : St} {bs : List Int} {i : Nat} (h : P2 w B s bs i wr) (r' : St) (hr : roundTo Ks (schedTo bs 64) s (i + 1) = r') : P2 w B s bs (i + 1) (wr.setCells B 0 (stV r').toList) := h.store r' hr
theorem info28 : (Tryd.prog.info? 28).map (·.size) = some 8 := by kernel_rfl
theorem info28b : ∃ a, Tryd.prog.info? 28 = some a ∧ a.size = 8 := by
  have h := info28
  rw [Option.map_eq_some_iff] at h
  exact h
theorem Row.there {w : World} {b : Nat} {T : TypeId} {vs : List Value} (h : Row w b T vs) : w.there b 0 vs.length := fun j hj => by
  rw [Nat.zero_add, h.cell j, List.getElem?_eq_getElem hj]
  exact ⟨rfl, h.frozen j⟩
theorem AD_range (a b : Int) : 0 ≤ AD a b ∧ AD a b < 4294967296 := by unfold AD; omega
theorem word_range {bs : List Int} (h : Bytes bs) {i : Nat} (hi : i < 16) : 0 ≤ word bs i ∧ word bs i < 4294967296 := by
  obtain ⟨_, p0, p1⟩ := h.at_ (i := 4 * i) (by omega)
  obtain ⟨_, p2, p3⟩ := h.at_ (i := 4 * i + 1) (by omega)
  obtain ⟨_, p4, p5⟩ := h.at_ (i := 4 * i + 2) (by omega)
  obtain ⟨_, p6, p7⟩ := h.at_ (i := 4 * i + 3) (by omega)
  unfold word; omega
theorem nextW_range {bs : List Int} (h : Bytes bs) (w : List Int) (i : Nat) : 0 ≤ nextW bs w i ∧ nextW bs w i < 4294967296 := by
  unfold nextW
  split
  · exact word_range h ‹_›
  · exact AD_range _ _
theorem sched_range {bs : List Int} (h : Bytes bs) : ∀ i, ∀ x ∈ schedTo bs i, 0 ≤ x ∧ x < 4294967296
  | 0, x, hx => by simp [schedTo] at hx
  | i + 1, x, hx => by
    rw [schedTo] at hx
    rcases List.mem_append.1 hx with h1 | h1
    · exact sched_range h i x h1
    · obtain rfl : x = nextW bs (schedTo bs i) i := by simpa using h1
      exact nextW_range h _ _
theorem sched_at (bs : List Int) (i m : Nat) {q : Nat} (hq : q < i) (h : Bytes bs) : (schedTo bs i ++ List.replicate m 0)[q]? = some ((schedTo bs i).getD q 0) ∧ 0 ≤ (schedTo bs i).getD q 0 ∧ (schedTo bs i).getD q 0 < 4294967296 := by
  have h1 : (schedTo bs i)[q]? = some ((schedTo bs i).getD q 0) := getD_some (by rw [schedTo_length]; exact hq)
  refine ⟨?_, sched_range h i _ (List.mem_of_getElem? h1)⟩
  rw [List.getElem?_append_left (by rw [schedTo_length]; exact hq)]
  exact h1

/-- The result lies in memory: its cells are read. -/
theorem results_cell {fn : Func} {t : Tmp} {ty : TypeId} (h : fn.results = #[.cell t ty]) (tmps : Array Value) (P : Program) (w : World) (b : Nat) (cs : List Value) (d : TypeDesc)
    (ht : tmps.getD t undef = .pointer (some ⟨b, 0, none⟩)) (hc : w.rangeAt b 0 cs) (hu : P.underlying ty = some d) (hd : d.isRow = true) (hi : (P.info? ty).map (·.size) = some cs.length) :
    (results fn tmps).run P w = .ok (.agg cs.toArray) w := by
  have hl := run_loadVar_mid (P := P) w b 0 ty cs d hc hu hd hi
  simp only [results, h]
  simp [-Array.getD_eq_getD_getElem?, ht, asAddr, hl]
theorem Row.range {w : World} {b : Nat} {T : TypeId} {vs : List Value} (h : Row w b T vs) : w.rangeAt b 0 vs := fun j v hv => by
  rw [Nat.zero_add, h.cell j, hv]
theorem Row.setCells {b : Nat} {T : TypeId} : ∀ (us old pre post : List Value) (w : World), Row w b T (pre ++ old ++ post) → old.length = us.length → Row (w.setCells b pre.length us) b T (pre ++ us ++ post)
  | [], old, pre, post, w, h, he => by
    obtain rfl : old = [] := List.eq_nil_of_length_eq_zero he
    exact h
  | u :: us, [], pre, post, w, h, he => by cases he
  | u :: us, o :: old, pre, post, w, h, he => by
    have h1 := h.set pre.length u
    have e : (pre ++ o :: old ++ post).set pre.length u = (pre ++ [u]) ++ old ++ post := by simp [List.set_append]
    rw [e] at h1
    have h2 := Row.setCells us old (pre ++ [u]) post _ h1 (by simpa using he)
    rw [World.setCells]
    simpa using h2
theorem Row.setAll {w : World} {b : Nat} {T : TypeId} {vs : List Value} (h : Row w b T vs) (us : List Value) (he : vs.length = us.length) : Row (w.setCells b 0 us) b T us := by
  have h2 := Row.setCells us vs [] [] w (by simpa using h) he
  simpa using h2
theorem below_setCells {N b : Nat} {w : World} (hb : N ≤ b) : ∀ (us : List Value) (o : Nat) (w1 : World), Below N w w1 → Below N w (w1.setCells b o us)
  | [], _, _, h => h
  | u :: us, o, w1, h => below_setCells hb us (o + 1) _ (h.setCell (by exact hb) u)
theorem Row.setCellsOther {b p : Nat} {T : TypeId} (hp : p ≠ b) {vs : List Value} : ∀ (us : List Value) (o : Nat) (w : World), Row w b T vs → Row (w.setCells p o us) b T vs
  | [], _, _, h => h
  | u :: us, o, w, h => Row.setCellsOther hp us (o + 1) _ (h.setOther hp u)
theorem U32_one (l : List Int) : (U32 l).toArray.all (·.oneCell') = true := all_oneCell_toArray (fun v hv => by
  obtain ⟨x, _, rfl⟩ := List.mem_map.1 hv; rfl)
theorem U8_one (l : List Int) : (U8 l).toArray.all (·.oneCell') = true := all_oneCell_toArray (fun v hv => by
  obtain ⟨x, _, rfl⟩ := List.mem_map.1 hv; rfl)
def stL (s : St) : List Int := [s.a, s.b, s.c, s.d, s.e, s.f, s.g, s.h]
/-- The first j words added. -/
def mixL (s r : St) (j : Nat) : List Int := (List.zipWith AD (stL s) (stL r)).take j ++ (stL s).drop j
/-- What holds in the third loop of process. -/
structure P3 (w : World) (B : Nat) (s r : St) (j : Nat) (wr : World) : Prop where
  r2 : Row wr w.heap.size 28 (U32 (mixL s r j))
  r4 : Row wr (w.heap.size + 1 + 1) 28 (U32 (List.replicate 8 0))
  rv : Row wr B 28 (U32 (stL r))
  bw : Below w.heap.size w wr
  lo : w.heap.size + 1 + 1 + 1 < B
def P3R (w : World) (B : Nat) (s r : St) (v : Value) (wr : World) : Prop := ∃ j : Nat, j ≤ 8 ∧ v = .int .i64 j ∧ P3 w B s r j wr
theorem P2.three {w wr : World} {B : Nat} {s : St} {bs : List Int} (h : P2 w B s bs 64 wr) : P3 w B s (roundTo Ks (schedTo bs 64) s 64) 0 wr := ⟨h.r2, h.r4, h.rv, h.bw, h.lo⟩
theorem P3.drewN {w wr : World} {B : Nat} {s r : St} {j : Nat} (h : P3 w B s r j wr) (n : Nat) : P3 w B s r j (wr.drewN n) := ⟨h.r2, h.r4, h.rv, ⟨h.bw.os, h.bw.tape, h.bw.output, h.bw.size, h.bw.block⟩, h.lo⟩
theorem P3.drew {w wr : World} {B : Nat} {s r : St} {j : Nat} (h : P3 w B s r j wr) : P3 w B s r j wr.drew := ⟨h.r2, h.r4, h.rv, h.bw.drew, h.lo⟩
theorem mixL_at (s r : St) {j : Nat} (hj : j < 8) : (mixL s r j)[j]? = some ((stL s).getD j 0) ∧ (stL r)[j]? = some ((stL r).getD j 0) ∧ (mixL s r j).set j (AD ((stL s).getD j 0) ((stL r).getD j 0)) = mixL s r (j + 1) := by
  rcases j with _ | _ | _ | _ | _ | _ | _ | _ | j
  all_goals first | exact ⟨rfl, rfl, rfl⟩ | omega
theorem P3.store {w wr : World} {B : Nat} {s r : St} {j : Nat} (h : P3 w B s r j wr) (hj : j < 8) : P3 w B s r (j + 1) (wr.setCell ⟨w.heap.size, j, none⟩ (.int .u32 (AD ((stL s).getD j 0) ((stL r).getD j 0)))) := by
  have hlo := h.lo
  refine ⟨?_, h.r4.setOther (by omega) _, h.rv.setOther (by omega) _, h.bw.setCell (by simp) _, h.lo⟩
  have h1 := h.r2.set j (.int .u32 (AD ((stL s).getD j 0) ((stL r).getD j 0)))
  rwa [show (U32 (mixL s r j)).set j (.int .u32 (AD ((stL s).getD j 0) ((stL r).getD j 0))) = U32 (mixL s r (j + 1)) by
    unfold U32; rw [← List.map_set, (mixL_at s r hj).2.2]] at h1

/-- The package's constants lie where the program laid them. -/
def KC (w : World) : Prop := 0 < w.heap.size ∧ ∀ i, i < 64 → w.cell? ⟨0, i, none⟩ = some (.int .u32 (Ks.getD i 0))
theorem KC.below {w w1 : World} (h : KC w) (hb : Below w.heap.size w w1) : KC w1 := ⟨Nat.lt_of_lt_of_le h.1 hb.size, fun i hi => (hb.cell (p := ⟨0, i, none⟩) h.1).trans (h.2 i hi)⟩
theorem roundTo_range {s : St} (h : StR s) (ws : List Int) : ∀ i, StR (roundTo Ks ws s i)
  | 0 => h
  | i + 1 => by
    have ih := roundTo_range h ws i
    obtain ⟨a, b, c, d, e, f, g, _⟩ := ih
    exact ⟨AD_range _ _, a, b, c, AD_range _ _, e, f, g⟩

end Go.Proofs.YtldonfgdomeacaaDoor
