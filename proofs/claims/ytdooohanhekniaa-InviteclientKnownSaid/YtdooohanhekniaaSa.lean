/- The simulated machine's memory: the block of a sim and its log, read as a plain value. -/
import Derived.Test.YtdooohanhekniaaW
import Derived.Deep.AppendLies
import Derived.Deep.RegionHeld3
import Derived.Deep.RegionLaw
import Derived.Deep.QuietTactic
import Derived.BigQuiet
namespace Go.Proofs.Ytdooohanhekniaa
open Go.RowKit

structure Ent where
  at_ : Int
  out : Out
structure Sim where
  m : Mach
  due : List Int
  now : Int
  log : List Ent

def eC (x : Ent) : List Value := .int .i64 x.at_ :: oC x.out
def esC (l : List Ent) : List Value := l.flatMap eC
theorem esC_length (l : List Ent) : (esC l).length = l.length * 5 := by
  induction l with
  | nil => rfl
  | cons x l ih => simp only [esC, List.flatMap_cons, List.length_append, List.length_cons] at ih ⊢; rw [ih]; simp [eC, oC]; omega
theorem esC_snoc (l : List Ent) (x : Ent) : esC (l ++ [x]) = esC l ++ eC x := by simp [esC]

def simL (σ : Sim) (v : Value) : List Value := [.int .u8 σ.m.st, .int .i64 σ.m.wait, .int .i64 σ.m.code] ++ (σ.due.map (Value.int .i64) ++ [.int .i64 σ.now, v])

theorem simL_length (σ : Sim) (v : Value) (h : σ.due.length = 14) : (simL σ v).length = 19 := by simp [simL, h]
theorem simL_due (σ : Sim) (v : Value) (i : Nat) (x : Int) (h : σ.due[i]? = some x) : (simL σ v)[3 + i]? = some (.int .i64 x) := by
  have hi : i < σ.due.length := by
    rcases Nat.lt_or_ge i σ.due.length with h1 | h1
    · exact h1
    · rw [List.getElem?_eq_none h1] at h; cases h
  unfold simL
  rw [List.getElem?_append_right (by simp), List.getElem?_append_left (by simpa using hi)]
  simp [h]
theorem simL_now (σ : Sim) (v : Value) (h : σ.due.length = 14) : (simL σ v)[17]? = some (.int .i64 σ.now) := by
  unfold simL
  rw [List.getElem?_append_right (by simp), List.getElem?_append_right (by simp [h])]
  simp [h]
theorem simL_log (σ : Sim) (v : Value) (h : σ.due.length = 14) : (simL σ v)[18]? = some v := by
  unfold simL
  rw [List.getElem?_append_right (by simp), List.getElem?_append_right (by simp [h])]
  simp [h]
theorem simL_set_due (σ : Sim) (v : Value) (h : σ.due.length = 14) (i : Nat) (hi : i < 14) (x : Int) : (simL σ v).set (3 + i) (.int .i64 x) = simL { σ with due := σ.due.set i x } v := by
  unfold simL
  rw [List.set_append_right _ _ (by simp), List.set_append_left _ _ (by simp [h]; omega)]
  simp [List.map_set]
theorem simL_set_now (σ : Sim) (v : Value) (h : σ.due.length = 14) (x : Int) : (simL σ v).set 17 (.int .i64 x) = simL { σ with now := x } v := by
  unfold simL
  rw [List.set_append_right _ _ (by simp), List.set_append_right _ _ (by simp [h])]
  simp [h]
theorem simL_set_log (σ : Sim) (v u : Value) (h : σ.due.length = 14) : (simL σ v).set 18 u = simL σ u := by
  unfold simL
  rw [List.set_append_right _ _ (by simp), List.set_append_right _ _ (by simp [h])]
  simp [h]
theorem simL_set_m (σ : Sim) (v : Value) (m : Mach) : (((simL σ v).set 0 (.int .u8 m.st)).set 1 (.int .i64 m.wait)).set 2 (.int .i64 m.code) = simL { σ with m := m } v := rfl

/-- Block g is the sim σ whose log's value is v. -/
structure SimV (w : World) (g : Nat) (σ : Sim) (v : Value) : Prop where
  blk : w.heap[g]? = some (.cells (simL σ v).toArray 35 (0, 0))
  len : σ.due.length = 14
  own : w.ownsRow 0 42 5 v σ.log.length (esC σ.log)
  ne : v.ownBlock ≠ some g

/-- Only block g, the log's block and new ones have changed. -/
structure Mv (w w' : World) (g : Nat) (v v' : Value) : Prop where
  os : w'.os = w.os
  tape : w'.tape = w.tape
  output : w'.output = w.output
  size : w.heap.size ≤ w'.heap.size
  block : ∀ k, k < w.heap.size → k ≠ g → v.ownBlock ≠ some k → w'.heap[k]? = w.heap[k]?
  at_ : v'.ownBlock = v.ownBlock ∨ ∀ k, v'.ownBlock = some k → w.heap.size ≤ k

theorem Mv.refl (w : World) (g : Nat) (v : Value) : Mv w w g v v := ⟨rfl, rfl, rfl, Nat.le_refl _, fun _ _ _ _ => rfl, .inl rfl⟩
theorem Mv.trans {w w1 w2 : World} {g : Nat} {v v1 v2 : Value} (h : Mv w w1 g v v1) (k : Mv w1 w2 g v1 v2) : Mv w w2 g v v2 := by
  refine ⟨k.os.trans h.os, k.tape.trans h.tape, k.output.trans h.output, Nat.le_trans h.size k.size, fun i hi hg hv => ?_, ?_⟩
  · refine (k.block i (Nat.lt_of_lt_of_le hi h.size) hg ?_).trans (h.block i hi hg hv)
    rcases h.at_ with e | e
    · rw [e]; exact hv
    · intro e'; have := e i e'; omega
  · rcases k.at_ with e | e
    · rw [e]; exact h.at_
    · exact .inr fun i hi => Nat.le_trans h.size (e i hi)
theorem Mv.below {w w1 w2 : World} {g : Nat} {v v1 : Value} (h : Mv w w1 g v v1) (k : Below w1.heap.size w1 w2) : Mv w w2 g v v1 :=
  h.trans ⟨k.os, k.tape, k.output, k.size, fun i hi _ _ => k.block i hi, .inl rfl⟩
theorem Mv.alloc {w w1 : World} {g : Nat} {v v1 : Value} (h : Mv w w1 g v v1) (o : Obj) : Mv w (w1.alloc o) g v v1 := h.below ((Below.refl _ _).alloc (Nat.le_refl _) o)
theorem Mv.drew {w w1 : World} {g : Nat} {v v1 : Value} (h : Mv w w1 g v v1) : Mv w w1.drew g v v1 := h.below (Below.drew (Below.refl _ _))
theorem Mv.drewN {w w1 : World} {g : Nat} {v v1 : Value} (h : Mv w w1 g v v1) (n : Nat) : Mv w (w1.drewN n) g v v1 := ⟨h.os, h.tape, h.output, h.size, h.block, h.at_⟩
theorem Mv.setCell {w w1 : World} {g : Nat} {v v1 : Value} (h : Mv w w1 g v v1) (i : Nat) (u : Value) : Mv w (w1.setCell ⟨g, i, none⟩ u) g v v1 :=
  h.trans ⟨rfl, rfl, rfl, by simp [World.setCell], fun k _ hg _ => Below.heap_setCell w1 _ u k hg, .inl rfl⟩
theorem Mv.toBelow {w w1 : World} {g B : Nat} {v v1 : Value} (h : Mv w w1 g v v1) (hg : B ≤ g) (hv : ∀ k, v.ownBlock = some k → B ≤ k) (hB : B ≤ w.heap.size) : Below B w w1 :=
  ⟨h.os, h.tape, h.output, h.size, fun i hi => h.block i (by omega) (by omega) (fun e => by have := hv i e; omega)⟩
theorem Mv.lo {w w1 : World} {g B : Nat} {v v1 : Value} (h : Mv w w1 g v v1) (hv : ∀ k, v.ownBlock = some k → B ≤ k) (hB : B ≤ w.heap.size) : ∀ k, v1.ownBlock = some k → B ≤ k := by
  rcases h.at_ with e | e
  · rw [e]; exact hv
  · exact fun k hk => Nat.le_trans hB (e k hk)

theorem Mv.grown {w w1 : World} {o : Obj} {g gg n cap : Nat} {v : Value} (h : (w.alloc o).drew.grownBy w1 v.ownBlock) (hat : v.ownBlock = some gg ∨ gg = w.heap.size + 1) : Mv w w1 g v (.slice (some ⟨gg, 0, none⟩) n cap) := by
  refine ⟨h.os, h.tape, h.output, Nat.le_trans (by simp) h.size, fun k hk _ hv => (h.block k (by simp; omega) (Ne.symm hv)).trans (Below.heap_alloc w o k hk), ?_⟩
  rcases hat with e | e
  · exact .inl e.symm
  · refine .inr fun k hk => ?_
    injection hk with hk
    subst hk; show _ ≤ gg; omega

theorem ownsRow_of {w w' : World} {b e sz n : Nat} {v : Value} {xs : List Value} (h : w.ownsRow b e sz v n xs) (hk : ∀ k, v.ownBlock = some k → w'.heap[k]? = w.heap[k]?) : w'.ownsRow b e sz v n xs := by
  refine ⟨h.1, ?_⟩
  rcases h.2 with h1 | ⟨g, cap, cur, rfl, h2, h3, h4⟩
  · exact .inl h1
  · exact .inr ⟨g, cap, cur, rfl, h2, (hk g rfl).trans h3, h4⟩
section
variable {w w' : World} {g : Nat} {σ : Sim} {v : Value}
theorem SimV.lt (h : SimV w g σ v) : g < w.heap.size := by
  rcases Nat.lt_or_ge g w.heap.size with h1 | h1
  · exact h1
  · have := h.blk; rw [Array.getElem?_eq_none h1] at this; cases this
theorem SimV.keep (h : SimV w g σ v) (hg : w'.heap[g]? = w.heap[g]?) (hk : ∀ k, v.ownBlock = some k → w'.heap[k]? = w.heap[k]?) : SimV w' g σ v :=
  ⟨hg.trans h.blk, h.len, ownsRow_of h.own hk, h.ne⟩
theorem SimV.below (h : SimV w g σ v) (hb : Below w.heap.size w w') : SimV w' g σ v :=
  h.keep (hb.block g h.lt) fun k hk => hb.block k (h.own.lt k hk).2
theorem SimV.alloc (h : SimV w g σ v) (o : Obj) : SimV (w.alloc o) g σ v := h.below ((Below.refl _ _).alloc (Nat.le_refl _) o)
theorem SimV.drew (h : SimV w g σ v) : SimV w.drew g σ v := h.below (Below.drew (Below.refl _ _))
theorem SimV.drewN (h : SimV w g σ v) (n : Nat) : SimV (w.drewN n) g σ v := ⟨h.blk, h.len, h.own, h.ne⟩
theorem SimV.frozen (h : SimV w g σ v) (i : Nat) : w.frozen? ⟨g, i, none⟩ = false := by simp [World.frozen?, h.blk]
theorem SimV.cell (h : SimV w g σ v) (i : Nat) : w.cell? ⟨g, i, none⟩ = (simL σ v)[i]? := by
  rw [cell_of_row w g i _ _ (0, 0) h.blk]; simp
theorem SimV.cm (h : SimV w g σ v) : w.cell? ⟨g, 0, none⟩ = some (.int .u8 σ.m.st) ∧ w.cell? ⟨g, 1, none⟩ = some (.int .i64 σ.m.wait) ∧ w.cell? ⟨g, 2, none⟩ = some (.int .i64 σ.m.code) := ⟨h.cell 0, h.cell 1, h.cell 2⟩
theorem SimV.cnow (h : SimV w g σ v) : w.cell? ⟨g, 17, none⟩ = some (.int .i64 σ.now) := (h.cell 17).trans (simL_now σ v h.len)
theorem SimV.clog (h : SimV w g σ v) : w.cell? ⟨g, 18, none⟩ = some v := (h.cell 18).trans (simL_log σ v h.len)
theorem SimV.cdue (h : SimV w g σ v) {i : Nat} {x : Int} (hx : σ.due[i]? = some x) : w.cell? ⟨g, 3 + i, none⟩ = some (.int .i64 x) := (h.cell _).trans (simL_due σ v i x hx)
theorem heap_set {cs : List Value} {t : TypeId} (h : w.heap[g]? = some (.cells cs.toArray t (0, 0))) (i : Nat) (u : Value) : (w.setCell ⟨g, i, none⟩ u).heap[g]? = some (.cells (cs.set i u).toArray t (0, 0)) := by
  simp [World.setCell, Array.getElem?_modify, h]
theorem SimV.set (h : SimV w g σ v) (i : Nat) (u : Value) (σ' : Sim) (he : (simL σ v).set i u = simL σ' v) (hl : σ'.due.length = 14) (hlog : σ'.log = σ.log) : SimV (w.setCell ⟨g, i, none⟩ u) g σ' v := by
  refine ⟨?_, hl, ?_, h.ne⟩
  · rw [← he]; exact heap_set h.blk i u
  · rw [hlog]
    refine ownsRow_of h.own fun k hk => Below.heap_setCell w _ u k ?_
    rintro rfl; exact h.ne hk
theorem SimV.setDue (h : SimV w g σ v) (i : Nat) (hi : i < 14) (x : Int) : SimV (w.setCell ⟨g, 3 + i, none⟩ (.int .i64 x)) g { σ with due := σ.due.set i x } v :=
  h.set _ _ _ (simL_set_due σ v h.len i hi x) (by simp [h.len]) rfl
theorem SimV.setNow (h : SimV w g σ v) (x : Int) : SimV (w.setCell ⟨g, 17, none⟩ (.int .i64 x)) g { σ with now := x } v :=
  h.set _ _ _ (simL_set_now σ v h.len x) h.len rfl
theorem SimV.setM (h : SimV w g σ v) (m : Mach) : SimV (((w.setCell ⟨g, 0, none⟩ (.int .u8 m.st)).setCell ⟨g, 1, none⟩ (.int .i64 m.wait)).setCell ⟨g, 2, none⟩ (.int .i64 m.code)) g { σ with m := m } v :=
  (((h.set 0 (.int .u8 m.st) { σ with m := ⟨m.st, σ.m.wait, σ.m.code⟩ } rfl h.len rfl).set 1 (.int .i64 m.wait) { σ with m := ⟨m.st, m.wait, σ.m.code⟩ } rfl h.len rfl).set 2 (.int .i64 m.code) { σ with m := m } rfl h.len rfl)
/-- Behind an append to the log and the store of its value. -/
theorem SimV.setLog {w1 : World} {v1 : Value} {x : Ent} (h : SimV w g σ v) (ho : w1.ownsRow 0 42 5 v1 (σ.log.length + 1) (esC σ.log ++ eC x)) (hg : w1.heap[g]? = w.heap[g]?) (hne : v1.ownBlock ≠ some g) :
    SimV (w1.setCell ⟨g, 18, none⟩ v1) g { σ with log := σ.log ++ [x] } v1 := by
  refine ⟨?_, h.len, ?_, hne⟩
  · have := heap_set (w := w1) (g := g) (hg.trans h.blk) 18 v1
    rw [this, simL_set_log σ v v1 h.len]
    rfl
  · show World.ownsRow _ 0 _ 5 v1 (σ.log ++ [x]).length (esC (σ.log ++ [x]))
    rw [esC_snoc, List.length_append]
    refine ownsRow_of ho fun k hk => Below.heap_setCell w1 _ v1 k ?_
    rintro rfl; exact hne hk
end
end Go.Proofs.Ytdooohanhekniaa
