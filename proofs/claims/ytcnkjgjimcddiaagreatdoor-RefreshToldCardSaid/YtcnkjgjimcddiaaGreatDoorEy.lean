/- A drawn region of two loads and two stores: what comes of it. -/
import Derived.Test.YtcnkjgjimcddiaaGreatDoorEs
namespace Go.Proofs.YtcnkjgjimcddiaaGreatDoor
open Go.RowKit

theorem size_setCells : ∀ (us : List Value) (b o : Nat) (w : World), (w.setCells b o us).heap.size = w.heap.size
  | [], _, _, _ => rfl
  | u :: us, b, o, w => by
    show ((w.setCell ⟨b, o, none⟩ u).setCells b (o + 1) us).heap.size = _
    rw [size_setCells us b (o + 1) _]
    simp
theorem mine_put {w0 w : World} {L : List Blk} {FS : List (World → Prop)} (h : Mine w0 w L FS) {i b : Nat} {T : TypeId} {vs : List Value} (us : List Value) (hi : L[i]? = some (b, T, vs)) (hl : vs.length = us.length) : Mine w0 (w.setCells b 0 us) (L.set i (b, T, us)) FS :=
  h.store hi rfl ((h.row hi).setAll us hl) (below_setCells (h.ge hi) us 0 _ h.bw) ⟨size_setCells us b 0 w, fun b' hb' => heap_setCells us 0 w b' hb'⟩
end Go.Proofs.YtcnkjgjimcddiaaGreatDoor
