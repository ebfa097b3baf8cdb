/- The contract of the reference's Finish. -/
import Derived.Test.YtldonfgdomeacaaDoorRj
import Derived.Deep.LoopGhost
namespace Go.Proofs.YtldonfgdomeacaaDoor
open Go.RowKit

/-- s fed with 128 and j zeros. -/
def padj (s : HS) (j : Nat) : HS := feedH s (128 :: List.replicate j 0)
theorem padj_by (j : Nat) : By (128 :: List.replicate j 0) := fun x hx => by
  rcases List.mem_cons.1 hx with rfl | hx
  · omega
  · obtain ⟨_, rfl⟩ := List.mem_replicate.1 hx; omega
theorem padj_range {s : HS} (h : HSR s) (j : Nat) : HSR (padj s j) := feedH_range h (padj_by j)
theorem padj_step {s : HS} (h : HSR s) (j : Nat) : feedH (padj s j) [0] = padj s (j + 1) := by
  unfold padj
  rw [feed_feed h.2.2.1, List.cons_append, ← List.replicate_succ']
theorem padj_n {s : HS} (h : HSR s) (j : Nat) : (padj s j).n = (s.n + (j + 1 : Nat)) % 18446744073709551616 := by
  unfold padj
  rw [feedH_n _ _ h.2.1, List.length_cons, List.length_replicate]
theorem padj_not {s : HS} (h : HSR s) {j : Nat} (hj : j < zN s.n) : ¬ (padj s j).n % 64 = 56 := by
  rw [padj_n h]
  have hc := heldN_cast (n := s.n)
  have := h.2.1
  unfold zN at hj
  have := heldN_lt s.n
  omega
theorem padj_yes {s : HS} (h : HSR s) : (padj s (zN s.n)).n % 64 = 56 := by
  rw [padj_n h]
  have hc := heldN_cast (n := s.n)
  have := h.2.1
  unfold zN
  have := heldN_lt s.n
  omega
theorem padj_fin {s : HS} (h : HSR s) : finH s = outH (feedH (padj s (zN s.n)) (lenB s.n)).st := by
  unfold finH padj
  rw [feed_feed h.2.2.1]
  rfl
theorem lenB_by (n : Int) : By (lenB n) := fun x hx => by
  obtain ⟨i, _, rfl⟩ := List.mem_map.1 hx
  unfold lenAt; omega
theorem lenB_take (n : Int) {j : Nat} (hj : j < 8) : (lenB n).take (j + 1) = (lenB n).take j ++ [lenAt n j] := by
  rw [List.take_succ_eq_append_getElem (by rw [lenB_len]; exact hj)]
  simp [lenB]
structure G1 (w : World) (B : Nat) (t : HS) (wx : World) : Prop where
  rt : Row wx B 32 (hsL t)
  r2 : Row wx (w.heap.size + 1) 24 (U8 (List.replicate 32 0))
  bw : Below w.heap.size w wx
  lo : w.heap.size + 1 < B
def G1V (w : World) (t : HS) (v : Value) (wx : World) : Prop := ∃ B, v = .pointer (some ⟨B, 0, none⟩) ∧ G1 w B t wx
def G1R (w : World) (B : Nat) (s : HS) (k : Nat) (_v : Value) (wx : World) : Prop := ∃ j, k = zN s.n - j ∧ j ≤ zN s.n ∧ G1 w B (padj s j) wx
theorem G1.below {w wx w' : World} {B : Nat} {t : HS} (h : G1 w B t wx) (hb : Below wx.heap.size wx w') : G1 w B t w' := ⟨h.rt.below hb, h.r2.below hb, h.bw.trans (hb.mono h.bw.size), h.lo⟩
theorem G1.put {w wx : World} {B : Nat} {t : HS} (h : G1 w B t wx) (t' : HS) (ht : t.tail.length = 64) (ht' : t'.tail.length = 64) : G1 w B t' (wx.setCells B 0 (hsL t')) :=
  ⟨h.rt.setAll (hsL t') (by rw [hsL_len ht, hsL_len ht']), Row.setCellsOther (by have := h.lo; omega) _ _ _ h.r2, below_setCells (by have := h.lo; omega) _ _ _ h.bw, h.lo⟩
/-- While the length is written: o owns the bytes so far, in blocks of its own. -/
structure G2 (w : World) (B : Nat) (t : HS) (b0 : Nat) (v : Value) (xs : List Int) (wx : World) : Prop where
  g : G1 w B t wx
  o : wx.ownsRow b0 5 1 v xs.length (U8 xs)
  lt : B < b0
  sz : b0 ≤ wx.heap.size
def G2R (w : World) (B : Nat) (t : HS) (b0 : Nat) (n : Int) (v v6 : Value) (wx : World) : Prop := ∃ (j : Nat) (x : Value), j ≤ 8 ∧ x = v ∧ v6 = .int .i64 (7 - (j : Int)) ∧ G2 w B t b0 x ((lenB n).take j) wx
theorem G2.base {w wx : World} {B b0 : Nat} {t : HS} {v : Value} {xs : List Int} (H : G2 w B t b0 v xs wx) (o : Obj) : b0 ≤ (wx.alloc o).heap.size := by have := H.sz; simp; omega
theorem G2.push {w wx w1 : World} {B b0 : Nat} {t : HS} {v v1 : Value} {xs : List Int} {x : Int} (H : G2 w B t b0 v xs wx) (o1 : w1.ownsRow b0 5 1 v1 (xs.length + 1) (U8 (xs ++ [x]))) (hg : (wx.alloc (.cells #[.int .u8 x] 5)).grownBy w1 v.ownBlock) : G2 w B t b0 v1 (xs ++ [x]) w1 := by
  have hs := H.sz
  have hl := H.lt
  have hlo := H.g.lo
  have hob := own_block H.o
  have key : ∀ b, b < b0 → w1.heap[b]? = wx.heap[b]? := fun b hb => by
    rw [hg.block b (by simp; omega) (fun e => by have := hob b e.symm; omega)]
    exact ((Below.refl wx.heap.size wx).alloc (Nat.le_refl _) _).block b (by omega)
  refine ⟨⟨H.g.rt.of (key _ (by omega)), H.g.r2.of (key _ (by omega)), ?_, H.g.lo⟩, by simpa using o1, H.lt, ?_⟩
  · exact (H.g.bw.alloc H.g.bw.size _).grown hg (by simp; omega) (fun k hk => by have := hob k hk; omega)
  · have := hg.size
    simp at this
    omega
structure G3 (w : World) (B C : Nat) (t : HS) (i : Nat) (wx : World) : Prop where
  g : G1 w B t wx
  r3 : Row wx C 24 (U8 (outTo t.st i))
  lt : B < C
theorem G3.store {w wx : World} {B C : Nat} {t : HS} {i : Nat} (h : G3 w B C t i wx) (hi : i < 32) : G3 w B C t (i + 1) (wx.setCell ⟨C, i, none⟩ (.int .u8 (outAt t.st i))) := by
  have hlo := h.g.lo
  have hlt := h.lt
  refine ⟨⟨h.g.rt.setOther (by omega) _, h.g.r2.setOther (by omega) _, h.g.bw.setCell (by simp; omega) _, h.g.lo⟩, ?_, h.lt⟩
  have h3 := h.r3.set i (.int .u8 (outAt t.st i))
  unfold U8 at h3 ⊢
  rwa [← List.map_set, outTo_set _ hi] at h3
def G3R (w : World) (B C : Nat) (t : HS) (v8 : Value) (wx : World) : Prop := ∃ i : Nat, i ≤ 8 ∧ v8 = .int .i64 i ∧ G3 w B C t (4 * i) wx
def G4R (w : World) (B C : Nat) (t : HS) (i : Nat) (v9 : Value) (wx : World) : Prop := ∃ j : Nat, j ≤ 4 ∧ v9 = .int .i64 j ∧ G3 w B C t (4 * i + j) wx
end Go.Proofs.YtldonfgdomeacaaDoor
