/- A drawn region of two loads and two stores: what comes of it. -/
import Derived.Test.YtcnkjgjimcddiaaGreatDoorEs
namespace Go.Proofs.YtcnkjgjimcddiaaGreatDoor
open Go.RowKit

theorem act_two {ops : Array Oper} {a a' : Act} {d0 d1 : Tmp} {v0 v1 : Value} (hF : Fr ops a a') (hd : ∀ (i : Nat) (o : Oper), ops[i]? = some o → o.dst = some d0 ∨ o.dst = some d1 ∨ o.dst = none) (h0 : a'.tmps.getD d0 undef = v0) (h1 : a'.tmps.getD d1 undef = v1) (l0 : d0 < a.tmps.size) (l1 : d1 < a.tmps.size) (hne : d0 ≠ d1) :
    a' = (a.put (some d0) v0).put (some d1) v1 := by
  obtain ⟨f1, f2, f3⟩ := hF
  refine act_ext (by rw [size_put, size_put]; exact f1) (by rw [defers_put, defers_put]; exact f2) fun s => ?_
  by_cases e1 : s = d1
  · subst e1
    rw [getD_put_same (by rw [size_put]; exact l1)]
    exact h1
  · rw [getD_put_other (by intro h; exact e1 (Option.some.inj h).symm)]
    by_cases e0 : s = d0
    · subst e0
      rw [getD_put_same l0]
      exact h0
    · rw [getD_put_other (by intro h; exact e0 (Option.some.inj h).symm)]
      exact f3 s fun i o ho h => by
        rcases hd i o ho with h2 | h2 | h2
        · exact e0 (Option.some.inj (h.symm.trans h2))
        · exact e1 (Option.some.inj (h.symm.trans h2))
        · rw [h2] at h; cases h
theorem size_setCells : ∀ (us : List Value) (b o : Nat) (w : World), (w.setCells b o us).heap.size = w.heap.size
  | [], _, _, _ => rfl
  | u :: us, b, o, w => by
    show ((w.setCell ⟨b, o, none⟩ u).setCells b (o + 1) us).heap.size = _
    rw [size_setCells us b (o + 1) _]
    simp
theorem mine_put {w0 w : World} {L : List Blk} {FS : List (World → Prop)} (h : Mine w0 w L FS) {i b : Nat} {T : TypeId} {vs : List Value} (us : List Value) (hi : L[i]? = some (b, T, vs)) (hl : vs.length = us.length) : Mine w0 (w.setCells b 0 us) (L.set i (b, T, us)) FS :=
  h.store hi rfl ((h.row hi).setAll us hl) (below_setCells (h.ge hi) us 0 _ h.bw) ⟨size_setCells us b 0 w, fun b' hb' => heap_setCells us 0 w b' hb'⟩
end Go.Proofs.YtcnkjgjimcddiaaGreatDoor
