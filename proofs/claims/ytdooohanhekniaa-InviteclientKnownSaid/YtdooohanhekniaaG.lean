/- Words for inviteclient's table: the map as a set of rows, assertions for the operations of a region. -/
import Derived.Test.YtdooohanhekniaaF
import Derived.Test.YtdooohanhekniaaR
namespace Go.Proofs.Ytdooohanhekniaa
open Go.RowKit

/-- Block r is a map that has just these rows, in whatever order. -/
def TabSet (w : World) (r : Nat) (S : List Row) : Prop := ∃ xs, TabIs w r xs ∧ ∀ x, x ∈ xs ↔ x ∈ S

theorem TabSet.new (w : World) : TabSet (w.alloc (.map #[] 0)) w.heap.size [] := ⟨[], TabIs.new w, fun _ => Iff.rfl⟩
theorem TabSet.lt {w : World} {r : Nat} {S : List Row} (h : TabSet w r S) : r < w.heap.size := by obtain ⟨_, h, _⟩ := h; exact h.lt
theorem TabSet.below {w w' : World} {r : Nat} {S : List Row} (h : TabSet w r S) (hb : Below w.heap.size w w') : TabSet w' r S := by
  obtain ⟨xs, h1, h2⟩ := h
  exact ⟨xs, h1.below hb, h2⟩
theorem TabSet.same {w : World} {r : Nat} {S S' : List Row} (h : TabSet w r S) (e : ∀ x, x ∈ S ↔ x ∈ S') : TabSet w r S' := by
  obtain ⟨xs, h1, h2⟩ := h
  exact ⟨xs, h1, fun x => (h2 x).trans (e x)⟩

theorem TabSet.insert {w : World} {r : Nat} {S : List Row} (h : TabSet w r S) (x : Row) (hn : ∀ y ∈ S, y.k ≠ x.k) {f : Value} (hf : FnOuts w f x.l) :
    ∃ w', (Instr.mapUpdate 69 (.map (some r)) (kV x.k.1 x.k.2.1 x.k.2.2.1 x.k.2.2.2) (.agg #[.int .u8 x.m.st, .int .i64 x.m.wait, .int .i64 x.m.code, f])).run Try.prog w = .ok () w' ∧
      TabSet w' r (x :: S) ∧ w.grownBy w' (some r) ∧ Kept w w' := by
  obtain ⟨xs, h1, h2⟩ := h
  obtain ⟨w', hr, t, g, k⟩ := h1.insert x (fun y hy => hn y ((h2 y).1 hy)) hf
  refine ⟨w', hr, ⟨_, t, fun y => ?_⟩, g, k⟩
  simp only [List.mem_append, List.mem_cons, List.not_mem_nil, or_false, h2 y]
  exact Or.comm

theorem TabSet.look_none {w : World} {r : Nat} {S : List Row} (h : TabSet w r S) (k : Key) (hn : ∀ y ∈ S, y.k ≠ k) :
    (Instr.lookup 69 (.map (some r)) (kV k.1 k.2.1 k.2.2.1 k.2.2.2) true).run Try.prog w = .ok (.tuple #[.agg #[.int .u8 0, .int .i64 0, .int .i64 0, .nilFunc], .bool false]) w := by
  obtain ⟨xs, h1, h2⟩ := h
  exact h1.look_none k fun y hy => hn y ((h2 y).1 hy)

theorem TabSet.look_some {w : World} {r : Nat} {S : List Row} (h : TabSet w r S) (k : Key) (x : Row) (hx : x ∈ S) (hk : x.k = k) (hu : ∀ y ∈ S, y.k = k → y = x) :
    ∃ f, FnOuts w f x.l ∧ ∀ w' : World, w'.heap[r]? = w.heap[r]? → (Instr.lookup 69 (.map (some r)) (kV k.1 k.2.1 k.2.2.1 k.2.2.2) true).run Try.prog w' = .ok (.tuple #[.agg #[.int .u8 x.m.st, .int .i64 x.m.wait, .int .i64 x.m.code, f], .bool true]) w' := by
  obtain ⟨xs, h1, h2⟩ := h
  have hf : xs.find? (fun y => y.k = k) = some x := by
    cases hff : xs.find? (fun y => y.k = k) with
    | none =>
      have := List.find?_eq_none.1 hff x ((h2 x).2 hx)
      simp [hk] at this
    | some y =>
      have hy1 := List.find?_some hff
      have hy2 := List.mem_of_find?_eq_some hff
      rw [hu y ((h2 y).1 hy2) (by simpa using hy1)]
  exact h1.look_some k x hf

/-! ### Assertions for the slots of a region -/
def aEx (x : Value) (_ : World) (v : Value) : Prop := v = x
def aSl (l : List Out) (w : World) (v : Value) : Prop := Outs w 0 v l
def aFn (l : List Out) (w : World) (v : Value) : Prop := FnOuts w v l
def aRow (m : Mach) (l : List Out) (w : World) (v : Value) : Prop := ∃ f, v = .agg #[.int .u8 m.st, .int .i64 m.wait, .int .i64 m.code, f] ∧ FnOuts w f l
def aTt (_ : World) (_ : Value) : Prop := True

def Stable (A : World → Value → Prop) : Prop := ∀ (w w' : World) (v : Value), Kept w w' → A w v → A w' v
theorem sEx (x : Value) : Stable (aEx x) := fun _ _ _ _ h => h
theorem sSl (l : List Out) : Stable (aSl l) := fun _ _ _ k h => Sl.keep h k.1 fun b o _ hlt => k.2 b o hlt
theorem sFn (l : List Out) : Stable (aFn l) := fun _ _ _ k h => FnOuts.kept h k
theorem sRow (m : Mach) (l : List Out) : Stable (aRow m l) := fun _ _ _ k ⟨f, h1, h2⟩ => ⟨f, h1, h2.kept k⟩
theorem sTt : Stable aTt := fun _ _ _ _ h => h

end Go.Proofs.Ytdooohanhekniaa
