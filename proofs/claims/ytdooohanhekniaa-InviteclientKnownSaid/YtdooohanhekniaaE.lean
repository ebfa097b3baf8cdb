/- The map that inviteclient.table makes, as a list of rows: what an insertion of a new key and a look-up do. -/
import Derived.Test.YtdooohanhekniaaD
import Derived.Maps.OwnSet
namespace Go.Proofs.Ytdooohanhekniaa
open Go.RowKit
open Go.ChangeMaps (setBlock)

abbrev kV (a b c d : Int) : Value := .agg #[.int .u8 a, .int .u8 b, .int .i64 c, .int .u8 d]

abbrev Key := Int × Int × Int × Int

structure Row where
  k : Key
  m : Mach
  l : List Out

theorem check_key (a b c d : Int) (em : Bool) (w : World) : (Instr.checkKey em 10000 72 (kV a b c d)).run Try.prog w = .ok () w := by kernel_rfl
theorem eq_key (a b c d a' b' c' d' : Int) (w : World) : (Op.equal 72 (kV a b c d) (kV a' b' c' d')).run Try.prog w = .ok (decide (a = a' ∧ b = b' ∧ c = c' ∧ d = d')) w := by
  unfold Op.equal Op.maxDepth
  rw [run_equalIn_struct (P := Try.prog) w 9999 72 _ _ (by kernel_rfl) (by kernel_rfl)]
  by_cases h1 : a = a' <;> by_cases h2 : b = b' <;> by_cases h3 : c = c' <;> by_cases h4 : d = d' <;> simp [go_sem, Try.underlying72, h1, h2, h3, h4]

/-- The function value gives, called in w, a new slice that reads as l. -/
def FnOuts (w : World) (f : Value) (l : List Out) : Prop :=
  ∃ b v, f = .func (.func 37) #[] #[.pointer (some ⟨b, 0, none⟩)] ∧ b < w.heap.size ∧ w.cell? ⟨b, 0, none⟩ = some v ∧ Outs w 0 v l ∧ 0 < l.length ∧ l.length ≤ 3

/-- All cells are as they were; new blocks may be there. -/
def Kept (w w' : World) : Prop := w.heap.size ≤ w'.heap.size ∧ ∀ b o, b < w.heap.size → w'.cell? ⟨b, o, none⟩ = w.cell? ⟨b, o, none⟩

theorem Kept.refl (w : World) : Kept w w := ⟨Nat.le_refl _, fun _ _ _ => rfl⟩
theorem Kept.trans {a b c : World} (h : Kept a b) (k : Kept b c) : Kept a c := ⟨Nat.le_trans h.1 k.1, fun x o hx => (k.2 x o (Nat.lt_of_lt_of_le hx h.1)).trans (h.2 x o hx)⟩
theorem Kept.of_below {w w' : World} (h : Below w.heap.size w w') : Kept w w' := ⟨h.size, fun b o hb => h.cell (p := ⟨b, o, none⟩) hb⟩
theorem Kept.alloc (w : World) (o : Obj) : Kept w (w.alloc o) := ⟨by simp, fun b f hb => World.cell?_alloc_lt w o ⟨b, f, none⟩ hb⟩

theorem FnOuts.kept {w w' : World} {f : Value} {l : List Out} (h : FnOuts w f l) (k : Kept w w') : FnOuts w' f l := by
  obtain ⟨b, v, rfl, hb, hc, ho, h1, h2⟩ := h
  exact ⟨b, v, rfl, Nat.lt_of_lt_of_le hb k.1, (k.2 b 0 hb).trans hc, Sl.keep ho k.1 (fun b o _ hlt => k.2 b o hlt), h1, h2⟩

def RowIs (w : World) (e : MapEntry) (x : Row) : Prop :=
  e.key = kV x.k.1 x.k.2.1 x.k.2.2.1 x.k.2.2.2 ∧ ∃ f, e.val = .agg #[.int .u8 x.m.st, .int .i64 x.m.wait, .int .i64 x.m.code, f] ∧ FnOuts w f x.l

def RowsAre (w : World) : List MapEntry → List Row → Prop
  | [], [] => True
  | e :: es, x :: xs => RowIs w e x ∧ RowsAre w es xs
  | _, _ => False

theorem RowIs.kept {w w' : World} {e : MapEntry} {x : Row} (h : RowIs w e x) (k : Kept w w') : RowIs w' e x := by
  obtain ⟨h1, f, h2, h3⟩ := h
  exact ⟨h1, f, h2, h3.kept k⟩

theorem RowsAre.kept {w w' : World} (k : Kept w w') : ∀ {es : List MapEntry} {xs : List Row}, RowsAre w es xs → RowsAre w' es xs
  | [], [], _ => trivial
  | _ :: _, _ :: _, h => ⟨h.1.kept k, RowsAre.kept k h.2⟩
  | [], _ :: _, h => h.elim
  | _ :: _, [], h => h.elim

theorem RowsAre.snoc {w : World} {e : MapEntry} {x : Row} (hx : RowIs w e x) : ∀ {es : List MapEntry} {xs : List Row}, RowsAre w es xs → RowsAre w (es ++ [e]) (xs ++ [x])
  | [], [], _ => ⟨hx, trivial⟩
  | _ :: _, _ :: _, h => ⟨h.1, RowsAre.snoc hx h.2⟩
  | [], _ :: _, h => h.elim
  | _ :: _, [], h => h.elim

theorem find_none {w0 : World} (k : Key) (w : World) : ∀ (es : List MapEntry) (xs : List Row) (i : Nat), RowsAre w0 es xs → (∀ x ∈ xs, x.k ≠ k) →
    (Instr.findAsking 72 (kV k.1 k.2.1 k.2.2.1 k.2.2.2) es i).run Try.prog w = .ok none w
  | [], [], _, _, _ => by simp [Instr.findAsking]
  | e :: es, x :: xs, i, h, hn => by
    have hx := hn x (by simp)
    have he : decide (k.1 = x.k.1 ∧ k.2.1 = x.k.2.1 ∧ k.2.2.1 = x.k.2.2.1 ∧ k.2.2.2 = x.k.2.2.2) = false := by
      simp only [decide_eq_false_iff_not]
      rintro ⟨h1, h2, h3, h4⟩
      exact hx (Prod.ext h1.symm (Prod.ext h2.symm (Prod.ext h3.symm h4.symm)))
    have ih := find_none k w es xs (i + 1) h.2 (fun y hy => hn y (by simp [hy]))
    simp [Instr.findAsking, h.1.1, eq_key, he, ih]
  | [], _ :: _, _, h, _ => h.elim
  | _ :: _, [], _, h, _ => h.elim

theorem find_some {w0 : World} (k : Key) (x : Row) : ∀ (es : List MapEntry) (xs : List Row) (i : Nat), RowsAre w0 es xs → xs.find? (fun y => y.k = k) = some x →
    ∃ j f, FnOuts w0 f x.l ∧ ∀ w : World, (Instr.findAsking 72 (kV k.1 k.2.1 k.2.2.1 k.2.2.2) es i).run Try.prog w = .ok (some (j, .agg #[.int .u8 x.m.st, .int .i64 x.m.wait, .int .i64 x.m.code, f])) w
  | [], [], _, _, hf => by simp at hf
  | e :: es, y :: xs, i, h, hf => by
    by_cases hy : y.k = k
    · have hxy : y = x := by simpa [hy] using hf
      subst hxy
      obtain ⟨h1, f, h2, h3⟩ := h.1
      refine ⟨i, f, h3, fun w => ?_⟩
      have he : decide (k.1 = y.k.1 ∧ k.2.1 = y.k.2.1 ∧ k.2.2.1 = y.k.2.2.1 ∧ k.2.2.2 = y.k.2.2.2) = true := by rw [hy]; simp
      simp [Instr.findAsking, h1, eq_key, he, h2]
    · have hf' : xs.find? (fun y => y.k = k) = some x := by simpa [hy] using hf
      obtain ⟨j, f, h3, hr⟩ := find_some k x es xs (i + 1) h.2 hf'
      have he : decide (k.1 = y.k.1 ∧ k.2.1 = y.k.2.1 ∧ k.2.2.1 = y.k.2.2.1 ∧ k.2.2.2 = y.k.2.2.2) = false := by
        simp only [decide_eq_false_iff_not]
        rintro ⟨h1, h2, h3, h4⟩
        exact hy (Prod.ext h1.symm (Prod.ext h2.symm (Prod.ext h3.symm h4.symm)))
      refine ⟨j, f, h3, fun w => ?_⟩
      simp [Instr.findAsking, h.1.1, eq_key, he, hr w]
  | [], _ :: _, _, h, _ => h.elim
  | _ :: _, [], _, h, _ => h.elim

theorem findKey_none {w0 : World} (k : Key) (w : World) (es : List MapEntry) (xs : List Row) (h : RowsAre w0 es xs) (hn : ∀ x ∈ xs, x.k ≠ k) :
    (Instr.findKey 72 (kV k.1 k.2.1 k.2.2.1 k.2.2.2) es).run Try.prog w = .ok none w := by
  cases es with
  | nil => simp [Instr.findKey, run_underlying Try.underlying72, Instr.findNow]
  | cons e es =>
    have := find_none k w (e :: es) xs 0 h hn
    simp [Instr.findKey, run_underlying Try.underlying72, Instr.findNow, Instr.sameNow, this]

theorem findKey_some {w0 : World} (k : Key) (x : Row) (es : List MapEntry) (xs : List Row) (h : RowsAre w0 es xs) (hf : xs.find? (fun y => y.k = k) = some x) :
    ∃ j f, FnOuts w0 f x.l ∧ ∀ w : World, (Instr.findKey 72 (kV k.1 k.2.1 k.2.2.1 k.2.2.2) es).run Try.prog w = .ok (some (j, .agg #[.int .u8 x.m.st, .int .i64 x.m.wait, .int .i64 x.m.code, f])) w := by
  cases es with
  | nil => cases xs with
    | nil => simp at hf
    | cons _ _ => exact h.elim
  | cons e es =>
    obtain ⟨j, f, h3, hr⟩ := find_some k x (e :: es) xs 0 h hf
    exact ⟨j, f, h3, fun w => by simp [Instr.findKey, run_underlying Try.underlying72, Instr.findNow, Instr.sameNow, hr w]⟩

/-- Block r is a map with these rows. -/
def TabIs (w : World) (r : Nat) (xs : List Row) : Prop := ∃ es clock, w.heap[r]? = some (.map es clock) ∧ RowsAre w es.toList xs

theorem TabIs.new (w : World) : TabIs (w.alloc (.map #[] 0)) w.heap.size [] := ⟨#[], 0, heap_alloc_new w _, trivial⟩
theorem TabIs.lt {w : World} {r : Nat} {xs : List Row} (h : TabIs w r xs) : r < w.heap.size := by
  obtain ⟨es, clock, hb, _⟩ := h
  rcases Nat.lt_or_ge r w.heap.size with h1 | h1
  · exact h1
  · rw [Array.getElem?_eq_none h1] at hb; cases hb
theorem TabIs.below {w w' : World} {r : Nat} {xs : List Row} (h : TabIs w r xs) (hb : Below w.heap.size w w') : TabIs w' r xs := by
  obtain ⟨es, clock, hr, hx⟩ := id h
  exact ⟨es, clock, (hb.block r h.lt).trans hr, hx.kept (Kept.of_below hb)⟩
theorem TabIs.alloc {w : World} {r : Nat} {xs : List Row} (h : TabIs w r xs) (o : Obj) : TabIs (w.alloc o) r xs := h.below ((Below.refl _ _).alloc (Nat.le_refl _) o)

/-- An insertion of a new key: a row more; nothing else has turned. -/
theorem TabIs.insert {w : World} {r : Nat} {xs : List Row} (h : TabIs w r xs) (x : Row) (hn : ∀ y ∈ xs, y.k ≠ x.k) {f : Value} (hf : FnOuts w f x.l) :
    ∃ w', (Instr.mapUpdate 69 (.map (some r)) (kV x.k.1 x.k.2.1 x.k.2.2.1 x.k.2.2.2) (.agg #[.int .u8 x.m.st, .int .i64 x.m.wait, .int .i64 x.m.code, f])).run Try.prog w = .ok () w' ∧
      TabIs w' r (xs ++ [x]) ∧ w.grownBy w' (some r) ∧ Kept w w' := by
  obtain ⟨es, clock, hr, hx⟩ := id h
  have hrun := findKey_none x.k w es.toList xs hx hn
  have hk : Kept w (setBlock w r (.map (es.push { key := kV x.k.1 x.k.2.1 x.k.2.2.1 x.k.2.2.2, val := .agg #[.int .u8 x.m.st, .int .i64 x.m.wait, .int .i64 x.m.code, f], born := clock }) (clock + 1))) := by
    refine ⟨by simp [setBlock], fun b o hb => ?_⟩
    by_cases e : b = r
    · subst e
      simp [World.cell?, ChangeMaps.heap_setBlock_same hr, hr]
    · simp [World.cell?, Go.ChangeMaps.heap_setBlock_other hr _ e]
  refine ⟨_, by simp [Instr.mapUpdate, run_underlying Try.underlying69, Go.MapKept.run_getObj_map hr, check_key, hrun, Go.MapKept.run_setObj_map _ hr, Result.andThen]; rfl, ?_, ?_, hk⟩
  · refine ⟨_, _, ChangeMaps.heap_setBlock_same hr _, ?_⟩
    simp only [Array.toList_push]
    exact RowsAre.snoc ⟨rfl, f, rfl, hf.kept hk⟩ (hx.kept hk)
  · exact ⟨rfl, rfl, rfl, by simp [setBlock], fun i _ hi => Go.ChangeMaps.heap_setBlock_other hr _ (fun e => hi (by rw [e]))⟩

theorem zero67 (w : World) : (zeroValue 67).run Try.prog w = .ok (.agg #[.int .u8 0, .int .i64 0, .int .i64 0, .nilFunc]) w := by kernel_rfl

theorem TabIs.look_none {w : World} {r : Nat} {xs : List Row} (h : TabIs w r xs) (k : Key) (hn : ∀ y ∈ xs, y.k ≠ k) :
    (Instr.lookup 69 (.map (some r)) (kV k.1 k.2.1 k.2.2.1 k.2.2.2) true).run Try.prog w = .ok (.tuple #[.agg #[.int .u8 0, .int .i64 0, .int .i64 0, .nilFunc], .bool false]) w := by
  obtain ⟨es, clock, hr, hx⟩ := h
  have hrun := findKey_none k w es.toList xs hx hn
  simp [Instr.lookup, run_underlying Try.underlying69, Go.MapKept.run_getObj_map hr, check_key, hrun, Result.andThen, zero67]

theorem TabIs.look_some {w : World} {r : Nat} {xs : List Row} (h : TabIs w r xs) (k : Key) (x : Row) (hf : xs.find? (fun y => y.k = k) = some x) :
    ∃ f, FnOuts w f x.l ∧ ∀ w' : World, w'.heap[r]? = w.heap[r]? → (Instr.lookup 69 (.map (some r)) (kV k.1 k.2.1 k.2.2.1 k.2.2.2) true).run Try.prog w' = .ok (.tuple #[.agg #[.int .u8 x.m.st, .int .i64 x.m.wait, .int .i64 x.m.code, f], .bool true]) w' := by
  obtain ⟨es, clock, hr, hx⟩ := h
  obtain ⟨j, f, h3, hrun⟩ := findKey_some k x es.toList xs hx hf
  exact ⟨f, h3, fun w' hw' => by simp [Instr.lookup, run_underlying Try.underlying69, Go.MapKept.run_getObj_map (hw'.trans hr), check_key, hrun w', Result.andThen]⟩

end Go.Proofs.Ytdooohanhekniaa
