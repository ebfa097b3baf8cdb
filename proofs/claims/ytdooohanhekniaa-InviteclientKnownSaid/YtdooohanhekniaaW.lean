/- Words for memory used in the proofs over inviteclient: a slice that reads as a list of cells, and what a call that returns a machine and outputs leaves. -/
import Derived.Test.YtdooohanhekniaaRows
import Derived.WalkKit
import Derived.WalkSpells
import Derived.WalkLawsBesides
import Derived.Lib.Hide
namespace Go.Proofs.Ytdooohanhekniaa
open Go.RowKit

structure Out where
  kind : Int
  code : Int
  timer : Int
  after : Int

structure Mach where
  st : Int
  wait : Int
  code : Int

structure Inp where
  kind : Int
  code : Int
  timer : Int

def oC (o : Out) : List Value := [.int .u8 o.kind, .int .i64 o.code, .int .u8 o.timer, .int .i64 o.after]
def osC (l : List Out) : List Value := l.flatMap oC

theorem osC_length (l : List Out) : (osC l).length = l.length * 4 := by
  induction l with
  | nil => rfl
  | cons x l ih => simp only [osC, List.flatMap_cons, List.length_append, List.length_cons] at ih ⊢; rw [ih]; simp [oC]; omega

/-- The slice value v has n elements, its cells are xs, and they lie in a block from lo on. -/
def Sl (w : World) (lo : Nat) (v : Value) (sz n : Nat) (xs : List Value) : Prop :=
  xs.length = n * sz ∧ ∃ A c, v = .slice A n c ∧ n ≤ c ∧ (0 < n → ∃ b o, A = some ⟨b, o, none⟩ ∧ lo ≤ b ∧ b < w.heap.size ∧ ∀ j u, xs[j]? = some u → w.cell? ⟨b, o + j, none⟩ = some u)

def Outs (w : World) (lo : Nat) (v : Value) (l : List Out) : Prop := Sl w lo v 4 l.length (osC l)

theorem Sl.keep {w w' : World} {lo : Nat} {v : Value} {sz n : Nat} {xs : List Value} (h : Sl w lo v sz n xs) (hs : w.heap.size ≤ w'.heap.size)
    (hk : ∀ b o, lo ≤ b → b < w.heap.size → w'.cell? ⟨b, o, none⟩ = w.cell? ⟨b, o, none⟩) : Sl w' lo v sz n xs := by
  obtain ⟨h1, A, c, hv, hc, h2⟩ := h
  refine ⟨h1, A, c, hv, hc, fun hn => ?_⟩
  obtain ⟨b, o, hA, hlo, hlt, hcell⟩ := h2 hn
  exact ⟨b, o, hA, hlo, Nat.lt_of_lt_of_le hlt hs, fun j u hu => (hk b _ hlo hlt).trans (hcell j u hu)⟩

theorem Sl.below {w w' : World} {lo : Nat} {v : Value} {sz n : Nat} {xs : List Value} {B : Nat} (h : Sl w lo v sz n xs) (hb : Below B w w') (hB : w.heap.size ≤ B) : Sl w' lo v sz n xs :=
  h.keep hb.size fun b o _ hlt => hb.cell (p := ⟨b, o, none⟩) (Nat.lt_of_lt_of_le hlt hB)

theorem Sl.lower {w : World} {lo lo' : Nat} {v : Value} {sz n : Nat} {xs : List Value} (h : Sl w lo v sz n xs) (hl : lo' ≤ lo) : Sl w lo' v sz n xs := by
  obtain ⟨h1, A, c, hv, hc, h2⟩ := h
  refine ⟨h1, A, c, hv, hc, fun hn => ?_⟩
  obtain ⟨b, o, hA, hlo, hlt, hcell⟩ := h2 hn
  exact ⟨b, o, hA, Nat.le_trans hl hlo, hlt, hcell⟩

theorem Sl.setCell {w : World} {lo : Nat} {v : Value} {sz n : Nat} {xs : List Value} (h : Sl w lo v sz n xs) {p : Addr} (hp : p.block < lo) (u : Value) : Sl (w.setCell p u) lo v sz n xs :=
  h.keep (by simp [World.setCell]) fun b o hlo _ => World.cell?_setCell_other w p ⟨b, o, none⟩ u (fun e => by subst e; simp at hp; omega)

theorem Sl.alloc {w : World} {lo : Nat} {v : Value} {sz n : Nat} {xs : List Value} (h : Sl w lo v sz n xs) (o : Obj) : Sl (w.alloc o) lo v sz n xs :=
  h.keep (by simp) fun b _ _ hlt => World.cell?_alloc_lt w o ⟨b, _, none⟩ hlt

theorem Sl.nil_ (w : World) (lo sz : Nat) : Sl w lo (.slice none 0 0) sz 0 [] := ⟨by simp, none, 0, rfl, Nat.le_refl _, fun h => absurd h (by omega)⟩

theorem Outs.below {w w' : World} {lo : Nat} {v : Value} {l : List Out} {B : Nat} (h : Outs w lo v l) (hb : Below B w w') (hB : w.heap.size ≤ B) : Outs w' lo v l := Sl.below h hb hB
theorem Outs.lower {w : World} {lo lo' : Nat} {v : Value} {l : List Out} (h : Outs w lo v l) (hl : lo' ≤ lo) : Outs w lo' v l := Sl.lower h hl
theorem Outs.setCell {w : World} {lo : Nat} {v : Value} {l : List Out} (h : Outs w lo v l) {p : Addr} (hp : p.block < lo) (u : Value) : Outs (w.setCell p u) lo v l := Sl.setCell h hp u
theorem Outs.alloc {w : World} {lo : Nat} {v : Value} {l : List Out} (h : Outs w lo v l) (o : Obj) : Outs (w.alloc o) lo v l := Sl.alloc h o

/-- A slice over a block that is known whole. -/
theorem Sl.ofBlock {w : World} {lo b : Nat} {sz n c : Nat} {xs : List Value} {t : TypeId} {cs : Array Value} (hb : w.heap[b]? = some (.cells cs t (0, 0))) (hlo : lo ≤ b) (hx : xs.length = n * sz) (hc : n ≤ c)
    (hcs : ∀ (j : Nat) u, xs[j]? = some u → cs[j]? = some u) : Sl w lo (.slice (some ⟨b, 0, none⟩) n c) sz n xs := by
  have hlt : b < w.heap.size := by
    rcases Nat.lt_or_ge b w.heap.size with h | h
    · exact h
    · rw [Array.getElem?_eq_none h] at hb; cases hb
  refine ⟨hx, _, c, rfl, hc, fun _ => ⟨b, 0, rfl, hlo, hlt, fun j u hu => ?_⟩⟩
  rw [Nat.zero_add, cell_of_row w b j cs t (0, 0) hb]
  exact hcs j u hu

theorem Sl.of_own {w : World} {base : Nat} {e : TypeId} {size n : Nat} {v : Value} {xs : List Value} (h : w.ownsRow base e size v n xs) : Sl w base v size n xs := by
  refine ⟨h.1, ?_⟩
  rcases h.2 with ⟨rfl, rfl⟩ | ⟨g, cap, cur, rfl, hlo, hb, hc, _, hs, ht⟩
  · exact ⟨none, 0, rfl, Nat.le_refl _, fun h => absurd h (by omega)⟩
  · refine ⟨_, cap, rfl, hc, fun _ => ⟨g, 0, rfl, hlo, ?_, fun j u hu => ?_⟩⟩
    · rcases Nat.lt_or_ge g w.heap.size with h1 | h1
      · exact h1
      · rw [Array.getElem?_eq_none h1] at hb; cases hb
    · rw [Nat.zero_add, cell_of_row w g j cur e (0, 0) hb]
      rw [← ht, List.getElem?_take] at hu
      split at hu
      · rw [← hu, Array.getElem?_toList]
      · cases hu

def RetMO (w : World) (m : Mach) (l : List Out) (e : Ending) (w' : World) : Prop :=
  ∃ v, e = .returned (.tuple #[.agg #[.int .u8 m.st, .int .i64 m.wait, .int .i64 m.code], v]) ∧ Outs w' w.heap.size v l ∧ Below w.heap.size w w'

theorem Outs.new {w : World} {lo b : Nat} {l : List Out} {n : Nat} {cs : Array Value} (hb : b = w.heap.size) (hlo : lo ≤ b) (hn : n = l.length) (hcs : cs.toList = osC l) : Outs (w.alloc (.cells cs 40)) lo (.slice (some ⟨b, 0, none⟩) n n) l := by
  subst hn hb
  unfold Outs
  refine Sl.ofBlock (heap_alloc_new w _) hlo (osC_length l) (Nat.le_refl _) fun j u hu => ?_
  rw [← hu, ← hcs, Array.getElem?_toList]

theorem Outs.grown {w : World} {lo b c : Nat} {l : List Out} {n : Nat} {cs zs : Array Value} (hb : b = w.heap.size) (hlo : lo ≤ b) (hn : n = l.length) (hc : n ≤ c) (hcs : cs.toList = osC l) : Outs (w.alloc (.cells (cs ++ zs) 40)) lo (.slice (some ⟨b, 0, none⟩) n c) l := by
  subst hn hb
  unfold Outs
  refine Sl.ofBlock (heap_alloc_new w _) hlo (osC_length l) hc fun j u hu => ?_
  rw [← hcs, Array.getElem?_toList] at hu
  have hlt : j < cs.size := (Array.getElem?_eq_some_iff.1 hu).1
  rw [Array.getElem?_append_left hlt]
  exact hu

theorem Outs.grown2 {w : World} {lo b c : Nat} {l : List Out} {n : Nat} {cs ds zs : Array Value} (hb : b = w.heap.size) (hlo : lo ≤ b) (hn : n = l.length) (hc : n ≤ c) (hcs : (cs ++ ds).toList = osC l) : Outs (w.alloc (.cells (cs ++ (ds ++ zs)) 40)) lo (.slice (some ⟨b, 0, none⟩) n c) l := by
  rw [← Array.append_assoc]
  exact Outs.grown hb hlo hn hc hcs

theorem cap_ge (need old : Nat) (e : TypeId) (x : Nat) : need ≤ (Question.appendCap need old e).cut x := by
  simp [Question.cut]

theorem Outs.none_ (w : World) (lo : Nat) : Outs w lo (.slice none 0 0) [] := Sl.nil_ w lo 4

theorem Below.al {B : Nat} {a w : World} (o : Obj) (hB : B ≤ w.heap.size) (h : Below B a w) : Below B a (w.alloc o) := h.alloc hB o

theorem bcell {W w1 : World} (hb : Below W.heap.size W w1) : (∀ b o, b < W.heap.size → w1.cell? ⟨b, o, none⟩ = W.cell? ⟨b, o, none⟩) ∧ (∀ b o, b < W.heap.size → w1.frozen? ⟨b, o, none⟩ = W.frozen? ⟨b, o, none⟩) :=
  ⟨fun b o h => hb.cell (p := ⟨b, o, none⟩) h, fun b o h => hb.frozen (p := ⟨b, o, none⟩) h⟩

end Go.Proofs.Ytdooohanhekniaa
