/- Contract: the reference's Parse. -/
import Derived.Test.YthfonniieaiocaaGreatDoorXp
set_option linter.unusedVariables false
set_option linter.unusedSimpArgs false
namespace Go.Proofs.YthfonniieaiocaaGreatDoor
open Go.RowKit

def RL (r ub rb : Nat) (s : ByteArray) (i : Nat) (q : Nat × Int) (us : List Value) : List Blk := [(r, 93, rdC s i q), (ub, 32, us), (rb, 32, uZ)]
structure RP (w : World) (r ub rb : Nat) (s : ByteArray) (i : Nat) (q : Nat × Int) (us : List Value) (vs : List (Value × List Pm)) (wx : World) : Prop where
  m : Mine w wx (RL r ub rb s i q us) []
  v : ∀ x ∈ vs, VX 56 3 w x.1 x.2.length (pms x.2) wx
section
variable {w wx w2 : World} {r ub rb i j : Nat} {s : ByteArray} {q q' : Nat × Int} {us : List Value} {vs : List (Value × List Pm)}
theorem RP.rd (h : RP w r ub rb s i q us vs wx) : RdR wx r s i q := h.m.row (i := 0) rfl
theorem RP.ur (h : RP w r ub rb s i q us vs wx) : Row wx ub 32 us := h.m.row (i := 1) rfl
theorem RP.call (h : RP w r ub rb s i q us vs wx) (hb : Below wx.heap.size wx w2) : RP w r ub rb s i q us vs w2 := ⟨h.m.call hb, fun x hx => (h.v x hx).step hb⟩
theorem RP.then (h : RP w r ub rb s i q us vs wx) (h2 : RdX wx r s j q' w2) : RP w r ub rb s j q' us vs w2 := by
  have hm := h.m.grown h2.g
  refine ⟨⟨hm.bw, fun x hx => ?_, h.m.nd, fun F hF => by cases hF⟩, fun x hx => (h.v x hx).other hm.bw fun g hg => ?_⟩
  · rcases List.mem_cons.1 hx with rfl | hx
    · exact ⟨h2.r, h.m.ge (i := 0) rfl⟩
    · exact hm.rows x hx
  · exact h2.g.block g ((h.v x hx).own_lt hg) (fun e => rowT_nv h.rd (h.v x hx) (by decide) g hg (Option.some.inj e))
theorem RP.set (h : RP w r ub rb s i q us vs wx) (n : Nat) (u : Value) : RP w r ub rb s i q (us.set n u) vs (wx.setCell ⟨ub, n, none⟩ u) :=
  ⟨h.m.setCell (i := 1) (off := n) u rfl rfl, fun x hx => (h.v x hx).other (h.m.bw.setCell (h.m.ge (i := 1) rfl) u) fun g hg => Below.heap_setCell wx ⟨ub, n, none⟩ u g (rowT_nv h.ur (h.v x hx) (by decide) g hg)⟩
theorem RP.more (h : RP w r ub rb s i q us vs w2) {v : Value} {l : List Pm} {B : Nat} (hB : w.heap.size ≤ B) (ho : w2.ownsRow B 56 3 v l.length (pms l)) : RP w r ub rb s i q us ((v, l) :: vs) w2 := by
  refine ⟨h.m, fun x hx => ?_⟩
  rcases List.mem_cons.1 hx with rfl | hx
  · refine ⟨⟨ho.1, ?_⟩, h.m.bw⟩
    rcases ho.2 with h0 | ⟨g, cap, cur, e1, e2, e3, e4⟩
    · exact .inl h0
    · exact .inr ⟨g, cap, cur, e1, Nat.le_trans hB e2, e3, e4⟩
  · exact h.v x hx
end
theorem mine_gb {w wx w9 : World} {L : List Blk} {FS : List (World → Prop)} {i b : Nat} {T : TypeId} {vs : List Value} (h : Mine w wx L FS) (hi : L[i]? = some (b, T, vs)) (hg : wx.grownBy w9 (some b)) : Below w.heap.size w w9 := h.bw.grown hg h.bw.size (fun k hk => by injection hk with hk; subst hk; exact h.ge hi)
theorem VX.put {w wx w9 : World} {v : Value} {n : Nat} {cs : List Value} {b : Nat} {T : TypeId} {us : List Value} (X : VX 56 3 w v n cs wx) (hr : Row wx b T us) (hT : T ≠ 56) (hb : Below w.heap.size w w9) (hg : wx.grownBy w9 (some b)) : VX 56 3 w v n cs w9 :=
  X.other hb fun g hg2 => hg.block g (X.own_lt hg2) (fun e => rowT_nv hr X hT g hg2 (Option.some.inj e))
theorem VX.none {w wx : World} (hb : Below w.heap.size w wx) : VX 56 3 w (.slice none 0 0) ([] : List Pm).length (pms []) wx := ⟨World.ownsRow_nil _ _ _ _, hb⟩
theorem own_slice {w : World} {B n sz : Nat} {T : TypeId} {v : Value} {cs : List Value} (h : w.ownsRow B T sz v n cs) : ∃ A c, v = .slice A n c := by
  rcases h.2 with ⟨h0, h1⟩ | ⟨g, cap, cur, h1, _⟩
  · rw [h1, h0]; exact ⟨_, _, rfl⟩
  · exact ⟨_, _, h1⟩
end Go.Proofs.YthfonniieaiocaaGreatDoor
