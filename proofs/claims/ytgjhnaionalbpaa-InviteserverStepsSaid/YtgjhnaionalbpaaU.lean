/- The reference's Copies, and the call of InviteserverSteps. -/
import Derived.Test.YtgjhnaionalbpaaS
import Derived.Test.YtgjhnaionalbpaaP
namespace Go.Proofs.Ytgjhnaionalbpaa
open Go.RowKit

def RCRel (w : World) (u : Int) (n i : Value) : Prop := ∃ k : Nat, k ≤ 11 ∧ n = .int .i64 (cntTo u k) ∧ i = .int .i64 k
theorem cntTo_range (u : Int) : ∀ k, 0 ≤ cntTo u k ∧ cntTo u k ≤ k
  | 0 => by simp [cntTo]
  | k + 1 => by
    have := cntTo_range u k
    unfold cntTo
    split <;> omega
def RCPost (u : Int) (w : World) (e : Ending) (w' : World) : Prop := e = .returned (.int .i64 (copiesS u)) ∧ Below w.heap.size w w'

set_option maxHeartbeats 1000000 in
theorem rcopies13_any (u : Int) (w : World) : Calls Try.prog 33 #[.int .i64 u] w (RCPost u w) := by
  go_enter Try.func33, Try.ntmps33
  go_wp2
  go_loop [3, 5] (fun n i => RCRel w u n i) (fun _ i => 11 - (intOf i).toNat)
  case atStart => exact ⟨0, by omega, rfl, rfl⟩
  case round =>
    obtain ⟨k, hk, rfl, rfl⟩ := hrel
    obtain ⟨hr0, hr1⟩ := cntTo_range u k
    by_cases h7 : k < 11
    · have hc : ((w.alloc (.cells #[.int .i64 0, .int .i64 500, .int .i64 1500, .int .i64 3500, .int .i64 7500, .int .i64 11500, .int .i64 15500, .int .i64 19500, .int .i64 23500, .int .i64 27500, .int .i64 31500] 3))).cell? ⟨w.heap.size, k, none⟩ = some (.int .i64 (atK k)) := by
        rw [cell_of_row _ w.heap.size k _ 3 (0, 0) (heap_alloc_new w _)]
        match k, h7 with
        | 0, _ | 1, _ | 2, _ | 3, _ | 4, _ | 5, _ | 6, _ | 7, _ | 8, _ | 9, _ | 10, _ => rfl
      by_cases hu : atK k ≤ u
      · have HN := Lib.hid (show cntTo u k + 1 = cntTo u (k + 1) by rw [cntTo, if_pos hu])
        go_wp2
        go_round
        case rel => exact ⟨k + 1, by omega, by rw [HN.out], by go_num⟩
        case measure => simp [intOf]; omega
      · have HN := Lib.hid (show cntTo u k = cntTo u (k + 1) by rw [cntTo, if_neg hu, Int.add_zero])
        go_wp2
        go_round
        case rel => exact ⟨k + 1, by omega, by rw [← HN.out], by go_num⟩
        case measure => simp [intOf]; omega
    · obtain rfl : k = 11 := by omega
      go_wp2
      go_ret
      exact ⟨rfl, (Below.refl _ _).alloc (Nat.le_refl _) _⟩

theorem rcopies_any (u : Int) (w : World) : Calls Try.prog 23 #[.int .i64 u] w (RCPost u w) := by
  go_enter Try.func23, Try.ntmps23
  go_wp2_with fail
  refine (rcopies13_any _ _).mono ?_
  rintro e w1 ⟨rfl, hb⟩
  have HB := Lib.hid hb
  clear hb
  go_wp2_with fail
  go_ret
  exact ⟨rfl, HB.out⟩

/-- Block b is the box of an input. -/
def IB (w : World) (b : Nat) (k c t : Int) : Prop := w.heap[b]? = some (.cells #[.int .u8 k, .int .i64 c, .int .u8 t] 45 (0, 0))
theorem IB.lt {w : World} {b : Nat} {k c t : Int} (h : IB w b k c t) : b < w.heap.size := by
  rcases Nat.lt_or_ge b w.heap.size with h1 | h1
  · exact h1
  · unfold IB at h; rw [Array.getElem?_eq_none h1] at h; cases h
theorem IB.below {w w1 : World} {b : Nat} {k c t : Int} (h : IB w b k c t) (hb : Below w.heap.size w w1) : IB w1 b k c t := (hb.block b h.lt).trans h
theorem IB.alloc {w : World} {b : Nat} {k c t : Int} (h : IB w b k c t) (o : Obj) : IB (w.alloc o) b k c t := h.below ((Below.refl _ _).alloc (Nat.le_refl _) o)
theorem IB.facts {w : World} {b : Nat} {k c t : Int} (h : IB w b k c t) : (w.cell? ⟨b, 0, none⟩ = some (.int .u8 k) ∧ w.cell? ⟨b, 1, none⟩ = some (.int .i64 c) ∧ w.cell? ⟨b, 2, none⟩ = some (.int .u8 t)) ∧ w.frozen? ⟨b, 0, none⟩ = false ∧ w.frozen? ⟨b, 2, none⟩ = false := by
  refine ⟨⟨cell_of_row w b 0 _ 45 (0, 0) h, cell_of_row w b 1 _ 45 (0, 0) h, cell_of_row w b 2 _ 45 (0, 0) h⟩, ?_⟩
  unfold IB at h
  refine ⟨?_, ?_⟩ <;> simp [World.frozen?, h]
theorem IB.set {w : World} {b : Nat} {k c t : Int} (h : IB w b k c t) (k' t' : Int) : IB ((w.setCell ⟨b, 0, none⟩ (.int .u8 k')).setCell ⟨b, 2, none⟩ (.int .u8 t')) b k' c t' := by
  unfold IB at h ⊢
  simp [World.setCell, Array.getElem?_modify, h]
theorem M3.setOther {w : World} {b p i : Nat} {m : Mach} (h : M3 w b m) (hne : p ≠ b) (u : Value) : M3 (w.setCell ⟨p, i, none⟩ u) b m := by
  have st : ∀ q, (w.setCell ⟨p, i, none⟩ u).cell? ⟨b, q, none⟩ = w.cell? ⟨b, q, none⟩ := fun q => World.cell?_setCell_other w _ _ u (fun e => hne (by injection e))
  exact ⟨by simpa [World.setCell] using h.1, (st 0).trans h.2.1, (st 1).trans h.2.2.1, (st 2).trans h.2.2.2⟩

set_option maxHeartbeats 4000000 in
theorem steps_law (s wt c k ic t u : Int) (w : World) : Calls Try.prog 6 #[.agg #[.int .u8 s, .int .i64 wt, .int .i64 c], .agg #[.int .u8 k, .int .i64 ic, .int .u8 t], .int .i64 u] w (TrueBelow w) := by
  go_enter Try.func6, Try.ntmps6
  go_wp2_with fail
  refine (start_any _).mono ?_
  rintro e w1 ⟨v, rfl, ho, hb⟩
  have M1 := Lib.hid (((M3.new w ⟨s, wt, c⟩).alloc _).kept (Kept.of_below hb))
  have hib : IB ((w.alloc (.cells #[.int .u8 s, .int .i64 wt, .int .i64 c] 26)).alloc (.cells #[.int .u8 k, .int .i64 ic, .int .u8 t] 45)) (w.heap.size + 1) k ic t := by
    have h := heap_alloc_new (w.alloc (.cells #[.int .u8 s, .int .i64 wt, .int .i64 c] 26)) (.cells #[.int .u8 k, .int .i64 ic, .int .u8 t] 45)
    simpa [IB] using h
  have I1 := Lib.hid (hib.below hb)
  have B1 := Lib.hid (show Below w.heap.size w w1 from Below.trans (by repeat (first | exact Below.refl _ _ | refine Below.al _ (by simp; try omega) ?_)) (hb.mono (by simp; omega)))
  obtain ⟨A1, cp1, rfl⟩ : ∃ A cp, v = .slice A 2 cp := by obtain ⟨_, A, cp, h, _⟩ := ho; exact ⟨A, cp, h⟩
  have O1 := Lib.hid (ho.lower (Nat.zero_le _))
  clear ho hb hib
  go_wp2_with fail
  refine (rstart_any _).mono ?_
  rintro e w2 ⟨v, rfl, ho, hb⟩
  obtain ⟨A2, cp2, rfl⟩ : ∃ A cp, v = .slice A 2 cp := by obtain ⟨_, A, cp, h, _⟩ := ho; exact ⟨A, cp, h⟩
  have O2 := Lib.hid (ho.lower (Nat.zero_le _))
  replace O1 := Lib.hid ((O1.out.alloc _).below hb (Nat.le_refl _))
  replace M1 := Lib.hid ((M1.out.alloc _).kept (Kept.of_below hb))
  replace I1 := Lib.hid ((I1.out.alloc _).below hb)
  have N1 := Lib.hid ((M3.new w1 ⟨3, 0, 100⟩).kept (Kept.of_below hb))
  replace B1 := Lib.hid ((B1.out.alloc B1.out.size _).trans (hb.mono (by have := B1.out.size; simp; omega)))
  obtain ⟨l1, a0, a1, a2⟩ := N1.out
  clear ho hb
  go_wp2_with fail
  refine (same_eq _ _ [⟨3, 0, 0, 0⟩, ⟨1, 100, 0, 0⟩] 0 0 _ (O1.out.alloc _) (O2.out.alloc _) (by simp)).mono ?_
  rintro e w3 ⟨rfl, hb⟩
  replace M1 := Lib.hid ((M1.out.alloc _).kept (Kept.of_below hb))
  replace I1 := Lib.hid ((I1.out.alloc _).below hb)
  replace B1 := Lib.hid ((B1.out.alloc B1.out.size _).trans (hb.mono (by have := B1.out.size; simp; omega)))
  clear hb l1 a0 a1 a2 N1 O1 O2
  obtain ⟨l1, a0, a1, a2⟩ := M1.out
  obtain ⟨⟨b0, b1, b2⟩, f0, f2⟩ := I1.out.facts
  have l2 := I1.out.lt
  go_wp2_with fail
  refine (lawstep_any _ _ _ _ _ _ _).mono ?_
  rintro e w4 ⟨rfl, hb⟩
  replace M1 := Lib.hid (M1.out.kept (Kept.of_below hb))
  replace I1 := Lib.hid (I1.out.below hb)
  replace B1 := Lib.hid (B1.out.trans (hb.mono B1.out.size))
  clear hb l1 a0 a1 a2 b0 b1 b2 f0 f2 l2
  obtain ⟨l1, a0, a1, a2⟩ := M1.out
  obtain ⟨⟨b0, b1, b2⟩, f0, f2⟩ := I1.out.facts
  have l2 := I1.out.lt
  go_wp2_with fail
  refine (lawstep_any _ _ _ _ _ _ _).mono ?_
  rintro e w5 ⟨rfl, hb⟩
  have B5 := Lib.hid (((B1.out.setCell (p := ⟨w.heap.size + 1, 0, none⟩) (by simp) (.int .u8 (k.tmod 8))).setCell (p := ⟨w.heap.size + 1, 2, none⟩) (by simp) (.int .u8 (t.tmod 15))).trans (hb.mono (by have := B1.out.size; simpa [World.setCell] using this)))
  clear hb l1 a0 a1 a2 b0 b1 b2 f0 f2 l2 M1 I1 B1
  go_wp2_with fail
  refine (copies_any _ _).mono ?_
  rintro e w' ⟨rfl, rfl⟩
  go_wp2_with fail
  refine (rcopies_any _ _).mono ?_
  rintro e w6 ⟨rfl, hb⟩
  have B6 := Lib.hid (B5.out.trans (hb.mono B5.out.size))
  clear hb B5
  go_wp2_with fail
  refine (copies_any _ _).mono ?_
  rintro e w' ⟨rfl, rfl⟩
  go_wp2_with fail
  refine (rcopies_any _ _).mono ?_
  rintro e w7 ⟨rfl, hb⟩
  have B7 := Lib.hid (B6.out.trans (hb.mono B6.out.size))
  clear hb B6
  go_wp2_with fail
  refine (works_any _).mono ?_
  rintro e w8 ⟨rfl, hb⟩
  have B8 := Lib.hid (B7.out.trans (hb.mono B7.out.size))
  clear hb B7
  go_wp2_with fail
  go_ret
  exact ⟨rfl, B8.out⟩
end Go.Proofs.Ytgjhnaionalbpaa
