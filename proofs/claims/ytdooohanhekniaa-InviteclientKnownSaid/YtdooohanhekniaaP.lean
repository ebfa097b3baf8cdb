/- The law's step: the program and the reference agree on every machine and input. -/
import Derived.Test.YtdooohanhekniaaN
import Derived.Test.YtdooohanhekniaaO
namespace Go.Proofs.Ytdooohanhekniaa
open Go.RowKit

/-- Block b holds a machine. -/
def M3 (w : World) (b : Nat) (m : Mach) : Prop := b < w.heap.size ∧ w.cell? ⟨b, 0, none⟩ = some (.int .u8 m.st) ∧ w.cell? ⟨b, 1, none⟩ = some (.int .i64 m.wait) ∧ w.cell? ⟨b, 2, none⟩ = some (.int .i64 m.code)
/-- Block b holds an input. -/
def I3 (w : World) (b : Nat) (i : Inp) : Prop := b < w.heap.size ∧ w.cell? ⟨b, 0, none⟩ = some (.int .u8 i.kind) ∧ w.cell? ⟨b, 1, none⟩ = some (.int .i64 i.code) ∧ w.cell? ⟨b, 2, none⟩ = some (.int .u8 i.timer)
section
variable {w w1 : World} {b : Nat} {m : Mach} {i : Inp}
theorem M3.kept (h : M3 w b m) (k : Kept w w1) : M3 w1 b m := ⟨Nat.lt_of_lt_of_le h.1 k.1, (k.2 b 0 h.1).trans h.2.1, (k.2 b 1 h.1).trans h.2.2.1, (k.2 b 2 h.1).trans h.2.2.2⟩
theorem I3.kept (h : I3 w b i) (k : Kept w w1) : I3 w1 b i := ⟨Nat.lt_of_lt_of_le h.1 k.1, (k.2 b 0 h.1).trans h.2.1, (k.2 b 1 h.1).trans h.2.2.1, (k.2 b 2 h.1).trans h.2.2.2⟩
theorem M3.alloc (h : M3 w b m) (o : Obj) : M3 (w.alloc o) b m := h.kept (Kept.alloc w o)
theorem M3.drew (h : M3 w b m) : M3 w.drew b m := h
theorem M3.c {s wt c : Int} (h : M3 w b ⟨s, wt, c⟩) : w.cell? ⟨b, 0, none⟩ = some (.int .u8 s) ∧ w.cell? ⟨b, 1, none⟩ = some (.int .i64 wt) ∧ w.cell? ⟨b, 2, none⟩ = some (.int .i64 c) := h.2
theorem M3.new (w : World) (m : Mach) : M3 (w.alloc (.cells #[.int .u8 m.st, .int .i64 m.wait, .int .i64 m.code] 26)) w.heap.size m := by
  refine ⟨by simp, ?_, ?_, ?_⟩ <;> go_simp
theorem I3.new (w : World) (i : Inp) : I3 (w.alloc (.cells #[.int .u8 i.kind, .int .i64 i.code, .int .u8 i.timer] 47)) w.heap.size i := by
  refine ⟨by simp, ?_, ?_, ?_⟩ <;> go_simp
end

theorem stepS_len (m : Mach) (i : Inp) : (stepS m i).2.length ≤ 3 := by
  unfold stepS respS timS failS
  repeat' split
  all_goals simp

set_option maxHeartbeats 2000000 in
theorem lawstep_any (s wt c k ic t : Int) (w : World) : Calls Try.prog 19 #[.agg #[.int .u8 s, .int .i64 wt, .int .i64 c], .agg #[.int .u8 k, .int .i64 ic, .int .u8 t]] w (TrueBelow w) := by
  go_enter Try.func19, Try.ntmps19
  go_wp2_with fail
  refine (step_any _ _ _ _ _ _ _).mono ?_
  have hlen := stepS_len ⟨s, wt, c⟩ ⟨k, ic, t⟩
  generalize hr : stepS ⟨s, wt, c⟩ ⟨k, ic, t⟩ = r
  rw [hr] at hlen
  obtain ⟨⟨q0, q1, q2⟩, l⟩ := r
  have HR := Lib.hid hr; have HL := Lib.hid hlen
  clear hr hlen
  rintro e w1 ⟨v, rfl, ho, hb⟩
  have m1 : M3 w1 w.heap.size ⟨s, wt, c⟩ := ((M3.new w ⟨s, wt, c⟩).alloc _).kept (Kept.of_below hb)
  have i1 : I3 w1 (w.heap.size + 1) ⟨k, ic, t⟩ := by have h := (I3.new (w.alloc _) ⟨k, ic, t⟩).kept (Kept.of_below hb); simpa using h
  have B1 := Lib.hid (show Below w.heap.size w w1 from Below.trans (by repeat (first | exact Below.refl _ _ | refine Below.al _ (by simp; try omega) ?_)) (hb.mono (by simp; omega)))
  obtain ⟨A, cp, rfl⟩ : ∃ A cp, v = .slice A l.length cp := by obtain ⟨_, A, cp, h, _⟩ := ho; exact ⟨A, cp, h⟩
  have O1 := Lib.hid ho; have M1 := Lib.hid m1
  obtain ⟨l1, a0, a1, a2⟩ := m1
  obtain ⟨l2, b0, b1, b2⟩ := i1
  clear ho hb
  go_wp2_with fail
  refine (rstep_any _ _ _ _ _ _ _).mono ?_
  rw [HR.out]
  rintro e w2 ⟨u, rfl, ho2, hb2⟩
  have m2 : M3 w2 w.heap.size ⟨s, wt, c⟩ := (M1.out.alloc _).kept (Kept.of_below hb2)
  have n2 : M3 w2 w1.heap.size ⟨q0, q1, q2⟩ := (M3.new w1 ⟨q0, q1, q2⟩).kept (Kept.of_below hb2)
  have B2 := Lib.hid (show Below w.heap.size w w2 from (B1.out.alloc B1.out.size _).trans (hb2.mono (by simp; have := B1.out.size; omega)))
  have O2 := Lib.hid (show Outs w2 0 (.slice A l.length cp) l from ((O1.out.alloc _).below hb2 (Nat.le_refl _)).lower (Nat.zero_le _))
  obtain ⟨A', cp', rfl⟩ : ∃ A cp, u = .slice A l.length cp := by obtain ⟨_, A, cp, h, _⟩ := ho2; exact ⟨A, cp, h⟩
  have P2 := Lib.hid (show Outs w2 0 (.slice A' l.length cp') l from ho2.lower (Nat.zero_le _))
  have M2 := Lib.hid m2; have N2 := Lib.hid n2
  clear l1 a0 a1 a2 l2 b0 b1 b2 O1 M1 B1 ho2 hb2
  obtain ⟨l1, a0, a1, a2⟩ := m2
  obtain ⟨l2, b0, b1, b2⟩ := n2
  go_wp2_with fail
  go_region_held3 (fun w' => (w'.cell? ⟨w.heap.size, 0, none⟩ = some (.int .u8 s) ∧ w'.cell? ⟨w.heap.size, 1, none⟩ = some (.int .i64 wt) ∧ w'.cell? ⟨w.heap.size, 2, none⟩ = some (.int .i64 c)) ∧
      (w'.cell? ⟨w1.heap.size, 0, none⟩ = some (.int .u8 q0) ∧ w'.cell? ⟨w1.heap.size, 1, none⟩ = some (.int .i64 q1) ∧ w'.cell? ⟨w1.heap.size, 2, none⟩ = some (.int .i64 q2)) ∧
      (w'.cell? ⟨w2.heap.size, 0, none⟩ = some (.int .u8 q0) ∧ w'.cell? ⟨w2.heap.size, 1, none⟩ = some (.int .i64 q1) ∧ w'.cell? ⟨w2.heap.size, 2, none⟩ = some (.int .i64 q2)))
    (first | with_reducible exact ⟨M3'.out.c, N3'.out.c, R3'.out.c⟩ | with_reducible exact ⟨(M3'.out.alloc _).c, (N3'.out.alloc _).c, (R3'.out.alloc _).c⟩ | with_reducible exact ⟨((M3'.out.alloc _).alloc _).c, ((N3'.out.alloc _).alloc _).c, ((R3'.out.alloc _).alloc _).c⟩ | go_keep)
    (first
      | (go_at_call 18; refine (same_eq _ _ l 0 0 _ (O2.out.alloc _).drew (P2.out.alloc _).drew (by have := HL.out; omega)).mono ?_; rintro e w3 ⟨rfl, hb3⟩; have M3' := Lib.hid ((M2.out.alloc _).drew.kept (Kept.of_below hb3)); have N3' := Lib.hid ((N2.out.alloc _).drew.kept (Kept.of_below hb3)); have R3' := Lib.hid ((M3.new w2 ⟨q0, q1, q2⟩).drew.kept (Kept.of_below hb3)); have B3 := Lib.hid hb3; clear hb3)
      | (go_at_call 14; refine (may_any _ _ _ _).mono ?_; rintro e w' ⟨rfl, rfl⟩)
      | (go_at_call 29; refine (rmay_any _ _ _ _).mono ?_; rintro e w' ⟨rfl, rfl⟩))
  go_wp2
  go_ret
  refine ⟨rfl, ?_⟩
  have h4 : Below w.heap.size w w3 := (Below.drew (B2.out.alloc B2.out.size _)).trans (B3.out.mono (by have := B2.out.size; show _ ≤ (w2.alloc _).heap.size; simp; omega))
  exact (h4.alloc h4.size _).alloc (by simp; have := h4.size; omega) _

theorem step_a (w : World) : Calls Try.prog 24 #[.agg #[.int .u8 1, .int .i64 500, .int .i64 0], .agg #[.int .u8 5, .int .i64 0, .int .u8 1]] w (RetMO w ⟨1, 1000, 0⟩ [⟨1, 0, 0, 0⟩, ⟨4, 0, 1, 1000⟩]) := step_any 1 500 0 5 0 1 w
theorem step_b (w : World) : Calls Try.prog 24 #[.agg #[.int .u8 1, .int .i64 500, .int .i64 0], .agg #[.int .u8 2, .int .i64 486, .int .u8 0]] w (RetMO w ⟨5, 0, 486⟩ [⟨3, 486, 0, 0⟩, ⟨2, 486, 0, 0⟩, ⟨4, 0, 4, 32000⟩]) := step_any 1 500 0 2 486 0 w
theorem step_c (w : World) : Calls Try.prog 24 #[.agg #[.int .u8 1, .int .i64 500, .int .i64 0], .agg #[.int .u8 2, .int .i64 200, .int .u8 0]] w (RetMO w ⟨4, 0, 200⟩ [⟨3, 200, 0, 0⟩, ⟨4, 0, 13, 32000⟩]) := step_any 1 500 0 2 200 0 w

set_option maxHeartbeats 2000000 in
theorem works_any (w : World) : Calls Try.prog 10 #[] w (TrueBelow w) := by
  go_enter Try.func10, Try.ntmps10
  go_wp2_with fail
  refine (start_any _).mono ?_
  rintro e w1 ⟨v, rfl, ho, hb⟩
  obtain ⟨A1, cp1, rfl⟩ : ∃ A cp, v = .slice A 3 cp := by obtain ⟨_, A, cp, h, _⟩ := ho; exact ⟨A, cp, h⟩
  have O1 := Lib.hid (ho.lower (Nat.zero_le _)); have B1 := Lib.hid hb
  clear ho hb
  go_wp2_with fail
  refine (step_a _).mono ?_
  rintro e w2 ⟨v, rfl, ho, hb⟩
  obtain ⟨A2, cp2, rfl⟩ : ∃ A cp, v = .slice A 2 cp := by obtain ⟨_, A, cp, h, _⟩ := ho; exact ⟨A, cp, h⟩
  have Mm1 := Lib.hid ((M3.new w1 ⟨1, 500, 0⟩).kept (Kept.of_below hb))
  replace O1 := Lib.hid ((O1.out.alloc _).below hb (Nat.le_refl _))
  have O2 := Lib.hid (ho.lower (Nat.zero_le _))
  replace B1 := Lib.hid ((B1.out.alloc B1.out.size _).trans (hb.mono (by have := B1.out.size; simp; omega)))
  clear ho hb
  obtain ⟨l1, a10, a11, a12⟩ := Mm1.out
  go_wp2_with fail
  refine (step_b _).mono ?_
  rintro e w3 ⟨v, rfl, ho, hb⟩
  clear l1 a10 a11 a12
  obtain ⟨A3, cp3, rfl⟩ : ∃ A cp, v = .slice A 3 cp := by obtain ⟨_, A, cp, h, _⟩ := ho; exact ⟨A, cp, h⟩
  replace Mm1 := Lib.hid ((Mm1.out.alloc _).kept (Kept.of_below hb))
  have Mm2 := Lib.hid ((M3.new w2 ⟨1, 1000, 0⟩).kept (Kept.of_below hb))
  replace O1 := Lib.hid ((O1.out.alloc _).below hb (Nat.le_refl _))
  replace O2 := Lib.hid ((O2.out.alloc _).below hb (Nat.le_refl _))
  have O3 := Lib.hid (ho.lower (Nat.zero_le _))
  replace B1 := Lib.hid ((B1.out.alloc B1.out.size _).trans (hb.mono (by have := B1.out.size; simp; omega)))
  clear ho hb
  obtain ⟨l1, a10, a11, a12⟩ := Mm1.out
  obtain ⟨l2, a20, a21, a22⟩ := Mm2.out
  go_wp2_with fail
  refine (step_c _).mono ?_
  rintro e w4 ⟨v, rfl, ho, hb⟩
  clear l1 a10 a11 a12 l2 a20 a21 a22
  obtain ⟨A4, cp4, rfl⟩ : ∃ A cp, v = .slice A 2 cp := by obtain ⟨_, A, cp, h, _⟩ := ho; exact ⟨A, cp, h⟩
  replace Mm1 := Lib.hid ((Mm1.out.alloc _).kept (Kept.of_below hb))
  replace Mm2 := Lib.hid ((Mm2.out.alloc _).kept (Kept.of_below hb))
  have Mm3 := Lib.hid ((M3.new w3 ⟨5, 0, 486⟩).kept (Kept.of_below hb))
  replace O1 := Lib.hid ((O1.out.alloc _).below hb (Nat.le_refl _))
  replace O2 := Lib.hid ((O2.out.alloc _).below hb (Nat.le_refl _))
  replace O3 := Lib.hid ((O3.out.alloc _).below hb (Nat.le_refl _))
  have O4 := Lib.hid (ho.lower (Nat.zero_le _))
  replace B1 := Lib.hid ((B1.out.alloc B1.out.size _).trans (hb.mono (by have := B1.out.size; simp; omega)))
  clear ho hb
  have Mm4 := Lib.hid (M3.new w4 ⟨4, 0, 200⟩)
  replace Mm2 := Lib.hid (Mm2.out.alloc (.cells #[.int .u8 4, .int .i64 0, .int .i64 200] 26))
  replace Mm3 := Lib.hid (Mm3.out.alloc (.cells #[.int .u8 4, .int .i64 0, .int .i64 200] 26))
  replace O1 := Lib.hid (O1.out.alloc (.cells #[.int .u8 4, .int .i64 0, .int .i64 200] 26))
  replace O2 := Lib.hid (O2.out.alloc (.cells #[.int .u8 4, .int .i64 0, .int .i64 200] 26))
  replace O3 := Lib.hid (O3.out.alloc (.cells #[.int .u8 4, .int .i64 0, .int .i64 200] 26))
  replace O4 := Lib.hid (O4.out.alloc (.cells #[.int .u8 4, .int .i64 0, .int .i64 200] 26))
  replace B1 := Lib.hid (B1.out.alloc B1.out.size (.cells #[.int .u8 4, .int .i64 0, .int .i64 200] 26))
  obtain ⟨l2, a20, a21, a22⟩ := Mm2.out
  obtain ⟨l3, a30, a31, a32⟩ := Mm3.out
  obtain ⟨l4, a40, a41, a42⟩ := Mm4.out
  go_wp2_with fail
  refine (outs_eq _ _ [⟨1, 0, 0, 0⟩, ⟨4, 0, 1, 500⟩, ⟨4, 0, 2, 32000⟩] 0 0 _ (O1.out.alloc _) (Outs.new (by simp) (Nat.zero_le _) (by rfl) (by rfl)) (by simp)).mono ?_
  rintro e w5 ⟨rfl, hb⟩
  clear l2 a20 a21 a22 l3 a30 a31 a32 l4 a40 a41 a42
  replace Mm2 := Lib.hid ((Mm2.out.alloc _).kept (Kept.of_below hb))
  replace Mm3 := Lib.hid ((Mm3.out.alloc _).kept (Kept.of_below hb))
  replace Mm4 := Lib.hid ((Mm4.out.alloc _).kept (Kept.of_below hb))
  replace O2 := Lib.hid ((O2.out.alloc _).below hb (Nat.le_refl _))
  replace O3 := Lib.hid ((O3.out.alloc _).below hb (Nat.le_refl _))
  replace O4 := Lib.hid ((O4.out.alloc _).below hb (Nat.le_refl _))
  replace B1 := Lib.hid ((B1.out.alloc B1.out.size _).trans (hb.mono (by have := B1.out.size; simp at this ⊢; omega)))
  clear hb
  obtain ⟨l2, a20, a21, a22⟩ := Mm2.out
  obtain ⟨l3, a30, a31, a32⟩ := Mm3.out
  obtain ⟨l4, a40, a41, a42⟩ := Mm4.out
  go_wp2_with fail
  refine (outs_eq _ _ [⟨1, 0, 0, 0⟩, ⟨4, 0, 1, 1000⟩] 0 0 _ (O2.out.alloc _) (Outs.new (by simp) (Nat.zero_le _) (by rfl) (by rfl)) (by simp)).mono ?_
  rintro e w6 ⟨rfl, hb⟩
  clear l2 a20 a21 a22 l3 a30 a31 a32 l4 a40 a41 a42
  replace Mm2 := Lib.hid ((Mm2.out.alloc _).kept (Kept.of_below hb))
  replace Mm3 := Lib.hid ((Mm3.out.alloc _).kept (Kept.of_below hb))
  replace Mm4 := Lib.hid ((Mm4.out.alloc _).kept (Kept.of_below hb))
  replace O3 := Lib.hid ((O3.out.alloc _).below hb (Nat.le_refl _))
  replace O4 := Lib.hid ((O4.out.alloc _).below hb (Nat.le_refl _))
  replace B1 := Lib.hid ((B1.out.alloc B1.out.size _).trans (hb.mono (by have := B1.out.size; simp at this ⊢; omega)))
  clear hb
  obtain ⟨l2, a20, a21, a22⟩ := Mm2.out
  obtain ⟨l3, a30, a31, a32⟩ := Mm3.out
  obtain ⟨l4, a40, a41, a42⟩ := Mm4.out
  go_wp2_with fail
  refine (outs_eq _ _ [⟨3, 486, 0, 0⟩, ⟨2, 486, 0, 0⟩, ⟨4, 0, 4, 32000⟩] 0 0 _ (O3.out.alloc _) (Outs.new (by simp) (Nat.zero_le _) (by rfl) (by rfl)) (by simp)).mono ?_
  rintro e w7 ⟨rfl, hb⟩
  clear l2 a20 a21 a22 l3 a30 a31 a32 l4 a40 a41 a42
  replace Mm2 := Lib.hid ((Mm2.out.alloc _).kept (Kept.of_below hb))
  replace Mm3 := Lib.hid ((Mm3.out.alloc _).kept (Kept.of_below hb))
  replace Mm4 := Lib.hid ((Mm4.out.alloc _).kept (Kept.of_below hb))
  replace O4 := Lib.hid ((O4.out.alloc _).below hb (Nat.le_refl _))
  replace B1 := Lib.hid ((B1.out.alloc B1.out.size _).trans (hb.mono (by have := B1.out.size; simp at this ⊢; omega)))
  clear hb
  obtain ⟨l2, a20, a21, a22⟩ := Mm2.out
  obtain ⟨l3, a30, a31, a32⟩ := Mm3.out
  obtain ⟨l4, a40, a41, a42⟩ := Mm4.out
  go_wp2_with fail
  refine (outs_eq _ _ [⟨3, 200, 0, 0⟩, ⟨4, 0, 13, 32000⟩] 0 0 _ (O4.out.alloc _) (Outs.new (by simp) (Nat.zero_le _) (by rfl) (by rfl)) (by simp)).mono ?_
  rintro e w8 ⟨rfl, hb⟩
  clear l2 a20 a21 a22 l3 a30 a31 a32 l4 a40 a41 a42
  replace Mm2 := Lib.hid ((Mm2.out.alloc _).kept (Kept.of_below hb))
  replace Mm3 := Lib.hid ((Mm3.out.alloc _).kept (Kept.of_below hb))
  replace Mm4 := Lib.hid ((Mm4.out.alloc _).kept (Kept.of_below hb))
  replace B1 := Lib.hid ((B1.out.alloc B1.out.size _).trans (hb.mono (by have := B1.out.size; simp at this ⊢; omega)))
  clear hb
  go_wp2_with fail
  go_ret
  exact ⟨rfl, B1.out⟩
end Go.Proofs.Ytdooohanhekniaa
