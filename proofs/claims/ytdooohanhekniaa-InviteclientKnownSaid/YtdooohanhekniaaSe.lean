/- Contracts of the simulated machine's start and count. -/
import Derived.Test.YtdooohanhekniaaSd
namespace Go.Proofs.Ytdooohanhekniaa
open Go.RowKit

def dueN (i : Nat) : List Int := List.replicate i (-1) ++ List.replicate (14 - i) 0
theorem dueN_set : ∀ i, i < 14 → (dueN i).set i (-1) = dueN (i + 1) := by decide
theorem dueN_len {i : Nat} (h : i ≤ 14) : (dueN i).length = 14 := by simp [dueN]; omega
def startS : Sim := takeS ⟨⟨0, 0, 0⟩, List.replicate 14 (-1), 0, []⟩ startM startL

/-- A call that returns a new sim. -/
def SimP (w : World) (σ : Sim) (e : Ending) (w' : World) : Prop :=
  ∃ g v, e = .returned (.pointer (some ⟨g, 0, none⟩)) ∧ w.heap.size ≤ g ∧ SimV w' g σ v ∧ (∀ k, v.ownBlock = some k → w.heap.size ≤ k) ∧ Below w.heap.size w w'
def StR (w : World) (i : Value) (wr : World) : Prop :=
  ∃ j : Nat, j ≤ 14 ∧ i = .int .i64 j ∧ SimV wr w.heap.size ⟨⟨0, 0, 0⟩, dueN j, 0, []⟩ (.slice none 0 0) ∧ Below w.heap.size w wr

set_option maxRecDepth 100000 in
set_option maxHeartbeats 4000000 in
theorem simstart_any (w : World) : Calls Try.prog 22 #[] w (SimP w startS) := by
  go_enter Try.func22, Try.ntmps22
  go_wp2
  go_loopw [2] (fun i wr => StR w i wr) (fun i _ => 14 - (intOf i).toNat)
  case atStart => exact ⟨0, Nat.zero_le _, rfl, ⟨heap_alloc_new w _, rfl, World.ownsRow_nil _ _ _ _, by simp [Value.ownBlock]⟩, (Below.refl _ _).alloc (Nat.le_refl _) _⟩
  case round =>
    obtain ⟨j, hj, rfl, hS, hB⟩ := hrel
    have hgl := hS.lt
    have hdl := hS.len
    simp only at hdl
    by_cases hlt : j < 14
    · obtain ⟨y, hy⟩ : ∃ y, (dueN j)[j]? = some y := ⟨(dueN j)[j]'(by omega), List.getElem?_eq_getElem _⟩
      have cf : wr.cell? ⟨w.heap.size, 3 + j, none⟩ = some (.int .i64 y) := hS.cdue hy
      have ff := hS.frozen (3 + j)
      have FIN := Lib.hid (show StR w (.int .i64 (j + 1 : Nat)) (wr.setCell ⟨w.heap.size, 3 + j, none⟩ (.int .i64 (-1))) from
        ⟨j + 1, by omega, rfl, by have h := hS.setDue j hlt (-1); simp only [dueN_set j hlt] at h; exact h, hB.setCell (by simp) _⟩)
      clear hS hB hy hdl
      go_wp2_with fail
      go_roundw
      case rel => exact FIN.out
      case measure => simp [intOf]; omega
    · obtain rfl : j = 14 := by omega
      have SV := Lib.hid hS; have BV := Lib.hid hB
      clear hS hB hdl
      go_wp2_with fail
      refine (start_is _).mono ?_
      rintro e w1 ⟨u, rfl, ho, hb⟩
      obtain ⟨A, cp, rfl⟩ : ∃ A cp, u = .slice A startL.length cp := by obtain ⟨_, A, cp, h, _⟩ := ho; exact ⟨A, cp, h⟩
      have HT := Lib.hid (take_any w.heap.size ⟨⟨0, 0, 0⟩, dueN 14, 0, []⟩ (.slice none 0 0) startM.st startM.wait startM.code A startL.length cp startL wr.heap.size (w1.alloc (.cells #[.int .u8 startM.st, .int .i64 startM.wait, .int .i64 startM.code] 26))
        ((SV.out.below hb).alloc _) (ho.alloc _) hgl (fun k hk => by simp [Value.ownBlock] at hk) (by have := startL_len; omega) (by simp) (by simp) (by simp) startL_outs)
      have B1 := Lib.hid ((BV.out.trans (hb.mono BV.out.size)).alloc (by have := BV.out.size; have := hb.size; omega) (.cells #[.int .u8 startM.st, .int .i64 startM.wait, .int .i64 startM.code] 26))
      have hz := Nat.le_trans BV.out.size hb.size
      clear ho hb SV BV
      go_wp2_with fail
      refine HT.out.mono ?_
      rintro e w2 ⟨rfl, v2, h1, h2⟩
      have FIN := Lib.hid (show SimP w startS (.returned (.pointer (some ⟨w.heap.size, 0, none⟩))) w2 from
        ⟨w.heap.size, v2, rfl, Nat.le_refl _, h1, h2.lo (fun k hk => by simp [Value.ownBlock] at hk) (by simp; omega), B1.out.trans (h2.toBelow (Nat.le_refl _) (fun k hk => by simp [Value.ownBlock] at hk) (by simp; omega))⟩)
      clear h1 h2
      go_wp2_with fail
      go_ret
      exact FIN.out
end Go.Proofs.Ytdooohanhekniaa
