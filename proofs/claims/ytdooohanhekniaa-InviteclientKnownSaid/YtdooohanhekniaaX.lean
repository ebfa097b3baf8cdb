/- What single operations do, for regions that are proved by assertions; boxes; values out of an invariant. -/
import Derived.Test.YtdooohanhekniaaG
namespace Go.Proofs.Ytdooohanhekniaa
open Go.RowKit

section
variable {P : Program} {ops : Array Oper} {Q : Exit → Act → World → Prop} {o : Oper} {a a0 : Act} {w w' : World} {K : Act → World → Prop}

theorem wp_value {v : Value} (h : (execOp a.eval o).run P w = .ok (.value v) w') (hk : K (a.put o.dst v) w') : o.wp P a w K Q := by
  unfold Oper.wp; rw [h]; exact hk
theorem wp_skip (h : (execOp a.eval o).run P w = .ok .skip w') (hk : K (a.put o.dst undef) w') : o.wp P a w K Q := by
  unfold Oper.wp; rw [h]; exact hk
theorem wp_enter {f : FuncId} {args : Array Value} {R : Ending → World → Prop} (h : (execOp a.eval o).run P w = .ok (.enter f args) w') (hc : Calls P f args w' R)
    (hk : ∀ e w2, R e w2 → ∃ v, e = .returned v ∧ K (a.put o.dst v) w2) : o.wp P a w K Q := by
  unfold Oper.wp; rw [h]
  refine Calls.mono hc fun e w2 hr => ?_
  obtain ⟨v, rfl, hv⟩ := hk e w2 hr
  exact hv

theorem face_of {i : Nat} {op : Op} {x : Option Tmp} {g : Option (Nat × Bool)} (hf : (ops[i]?).map (fun o => (o.op, o.dst, o.guard)) = some (op, x, g)) (ho : ops[i]? = some o) : o.op = op ∧ o.dst = x ∧ o.guard = g := by
  rw [ho] at hf
  simpa using hf

theorem dagVal {A : Nat → World → Value → Prop} {G : (Nat → Bool) → Act → World → Prop} {L : Nat → Bool} (hI : DagI ops A G a0 L a w) {j : Nat} {x : Tmp} {op : Op} {g : Option (Nat × Bool)}
    (hf : (ops[j]?).map (fun o => (o.op, o.dst, o.guard)) = some (op, some x, g)) (hL : L j = true) : A j w (a.tmps[x]?.getD undef) := by
  cases ho : ops[j]? with
  | none => rw [ho] at hf; cases hf
  | some o =>
    obtain ⟨_, hd, _⟩ := face_of hf ho
    have := hI.2.1 j o x ho hd hL
    rwa [Array.getD_eq_getD_getElem?] at this

def freeOf (ops : Array Oper) (x : Tmp) : Bool := ops.all fun o => o.dst != some x

theorem dagOld {A : Nat → World → Value → Prop} {G : (Nat → Bool) → Act → World → Prop} {L : Nat → Bool} (hI : DagI ops A G a0 L a w) {x : Tmp} (hx : freeOf ops x = true) : a.tmps[x]?.getD undef = a0.tmps[x]?.getD undef := by
  have := hI.1.2.2 x fun i o ho hd => by
    have h1 := Array.all_eq_true_iff_forall_mem.1 hx o (Array.mem_of_getElem? ho)
    simp [hd] at h1
  rwa [Array.getD_eq_getD_getElem?, Array.getD_eq_getD_getElem?] at this

def depB (ops : Array Oper) (ps : List (Nat × Nat)) : Bool := ps.all fun p => match ops[p.1]? with
  | some o => o.after.any fun e => Region.binds .any e && e.on == p.2
  | none => false

theorem depL {ps : List (Nat × Nat)} (h : depB ops ps = true) {i j : Nat} (hp : (i, j) ∈ ps) {L : Nat → Bool} (ho : ops[i]? = some o) (hdep : ∀ e ∈ o.after, Region.binds .any e = true → L e.on = true) : L j = true := by
  have h1 := List.all_eq_true.1 h (i, j) hp
  simp only [ho] at h1
  obtain ⟨e, he, hb⟩ := Array.any_eq_true'.1 h1
  simp only [Bool.and_eq_true, beq_iff_eq] at hb
  rw [← hb.2]
  exact hdep e he hb.1

/-- A pointer to cells that are known. -/
def Bx (w : World) (v : Value) (cs : List Value) : Prop := ∃ b, v = .pointer (some ⟨b, 0, none⟩) ∧ b < w.heap.size ∧ ∀ (j : Nat) u, cs[j]? = some u → w.cell? ⟨b, j, none⟩ = some u
theorem Bx.kept {v : Value} {cs : List Value} (h : Bx w v cs) (k : Kept w w') : Bx w' v cs := by
  obtain ⟨b, hv, hb, hc⟩ := h
  exact ⟨b, hv, Nat.lt_of_lt_of_le hb k.1, fun j u hu => (k.2 b j hb).trans (hc j u hu)⟩

theorem x_load40 {x : Nat} {c0 c1 c2 c3 : Value} (hop : o.op = .load 40 (.tmp x)) (h : Bx w (a.tmps[x]?.getD undef) [c0, c1, c2, c3]) : (execOp a.eval o).run Try.prog w = .ok (.value (.agg #[c0, c1, c2, c3])) w := by
  obtain ⟨b, h1, _, hc⟩ := h
  have g0 := hc 0 _ rfl
  have g1 := hc 1 _ rfl
  have g2 := hc 2 _ rfl
  have g3 := hc 3 _ rfl
  simp [execOp, hop, h1, go_sem, g0, g1, g2, g3]
theorem x_load26 {x : Nat} {c0 c1 c2 : Value} (hop : o.op = .load 26 (.tmp x)) (h : Bx w (a.tmps[x]?.getD undef) [c0, c1, c2]) : (execOp a.eval o).run Try.prog w = .ok (.value (.agg #[c0, c1, c2])) w := by
  obtain ⟨b, h1, _, hc⟩ := h
  have g0 := hc 0 _ rfl
  have g1 := hc 1 _ rfl
  have g2 := hc 2 _ rfl
  simp [execOp, hop, h1, go_sem, g0, g1, g2]
theorem x_slice1 {x : Nat} {a0 a1 a2 a3 : Value} (hop : o.op = .buildSlice 48 1 #[(0, .tmp x)]) (h1 : a.tmps[x]?.getD undef = .agg #[a0, a1, a2, a3]) :
    (execOp a.eval o).run Try.prog w = .ok (.value (.slice (some ⟨w.heap.size, 0, none⟩) 1 1)) (w.alloc (.cells #[a0, a1, a2, a3] 40)) := by
  simp [execOp, hop, h1, go_sem]
theorem x_slice2 {x y : Nat} {a0 a1 a2 a3 b0 b1 b2 b3 : Value} (hop : o.op = .buildSlice 48 2 #[(0, .tmp x), (1, .tmp y)]) (h1 : a.tmps[x]?.getD undef = .agg #[a0, a1, a2, a3]) (h2 : a.tmps[y]?.getD undef = .agg #[b0, b1, b2, b3]) :
    (execOp a.eval o).run Try.prog w = .ok (.value (.slice (some ⟨w.heap.size, 0, none⟩) 2 2)) (w.alloc (.cells #[a0, a1, a2, a3, b0, b1, b2, b3] 40)) := by
  simp [execOp, hop, h1, h2, go_sem]
theorem x_slice3 {x y z : Nat} {a0 a1 a2 a3 b0 b1 b2 b3 c0 c1 c2 c3 : Value} (hop : o.op = .buildSlice 48 3 #[(0, .tmp x), (1, .tmp y), (2, .tmp z)]) (h1 : a.tmps[x]?.getD undef = .agg #[a0, a1, a2, a3]) (h2 : a.tmps[y]?.getD undef = .agg #[b0, b1, b2, b3])
    (h3 : a.tmps[z]?.getD undef = .agg #[c0, c1, c2, c3]) :
    (execOp a.eval o).run Try.prog w = .ok (.value (.slice (some ⟨w.heap.size, 0, none⟩) 3 3)) (w.alloc (.cells #[a0, a1, a2, a3, b0, b1, b2, b3, c0, c1, c2, c3] 40)) := by
  simp [execOp, hop, h1, h2, h3, go_sem]
theorem x_row {x y : Nat} {a0 a1 a2 f : Value} (hf : ∃ fn c d, f = .func fn c d) (hop : o.op = .build 67 #[(0, .tmp x), (1, .tmp y)]) (h1 : a.tmps[x]?.getD undef = .agg #[a0, a1, a2]) (h2 : a.tmps[y]?.getD undef = f) :
    (execOp a.eval o).run Try.prog w = .ok (.value (.agg #[a0, a1, a2, f])) w := by
  obtain ⟨fn, c, d, rfl⟩ := hf
  simp [execOp, hop, h1, h2, go_sem]
theorem x_insert {x y z r : Nat} {k v : Value} (hop : o.op = .insert 69 (.tmp x) (.tmp y) (.tmp z)) (h1 : a.tmps[x]?.getD undef = .map (some r)) (h2 : a.tmps[y]?.getD undef = k) (h3 : a.tmps[z]?.getD undef = v) (hr : (Instr.mapUpdate 69 (.map (some r)) k v).run Try.prog w = .ok () w') :
    (execOp a.eval o).run Try.prog w = .ok .skip w' := by
  simp [execOp, hop, Act.eval, h1, h2, h3, hr]
theorem x_update {x y z r : Nat} {k v : Value} (hop : o.op = .mapUpdate 69 (.tmp x) (.tmp y) (.tmp z)) (h1 : a.tmps[x]?.getD undef = .map (some r)) (h2 : a.tmps[y]?.getD undef = k) (h3 : a.tmps[z]?.getD undef = v) (hr : (Instr.mapUpdate 69 (.map (some r)) k v).run Try.prog w = .ok () w') :
    (execOp a.eval o).run Try.prog w = .ok .skip w' := by
  simp [execOp, hop, Act.eval, h1, h2, h3, hr]
theorem x_map (hop : o.op = .makeMap 69 none) : (execOp a.eval o).run Try.prog w = .ok (.value (.map (some w.heap.size))) (w.alloc (.map #[] 0)) := by
  simp [execOp, hop, run_makeMap]
theorem x_move {x : Nat} {v : Value} (hop : o.op = .move (.tmp x)) (h1 : a.tmps[x]?.getD undef = v) : (execOp a.eval o).run Try.prog w = .ok (.value v) w := by
  simp [execOp, hop, Act.eval, h1]
theorem x_assign {x : Nat} {v : Value} (hop : o.op = .assign (.tmp x)) (h1 : a.tmps[x]?.getD undef = v) : (execOp a.eval o).run Try.prog w = .ok (.value v) w := by
  simp [execOp, hop, Act.eval, h1]
theorem x_call36 {x : Nat} {v : Value} (hop : o.op = .call { callee := .value (.func 36), args := #[.tmp x], argTypes := #[48] }) (h1 : a.tmps[x]?.getD undef = v) : (execOp a.eval o).run Try.prog w = .ok (.enter 36 #[v]) w := by
  simp [execOp, hop, h1, go_sem]
theorem x_call27 {x : Nat} {u v : Value} (hop : o.op = .call { callee := .value (.func 27), args := #[.const u, .tmp x], argTypes := #[38, 3] }) (h1 : a.tmps[x]?.getD undef = v) : (execOp a.eval o).run Try.prog w = .ok (.enter 27 #[u, v]) w := by
  simp [execOp, hop, h1, go_sem]
theorem x_call27c {u v : Value} (hop : o.op = .call { callee := .value (.func 27), args := #[.const u, .const v], argTypes := #[38, 3] }) : (execOp a.eval o).run Try.prog w = .ok (.enter 27 #[u, v]) w := by
  simp [execOp, hop, go_sem]
end
theorem FnOuts.func {w : World} {f : Value} {l : List Out} (h : FnOuts w f l) : ∃ fn c d, f = .func fn c d := by
  obtain ⟨b, v, rfl, _⟩ := h
  exact ⟨_, _, _, rfl⟩
end Go.Proofs.Ytdooohanhekniaa
