/- Contracts: the law's host, refused, wrong; the reference's SameAddress. -/
import Derived.Test.YthfonniieaiocaaGreatDoorWe
import Derived.BigQuiet
set_option linter.unusedVariables false
set_option linter.unusedSimpArgs false
set_option maxRecDepth 100000
namespace Go.Proofs.YthfonniieaiocaaGreatDoor
open Go.RowKit

theorem refused_is (s : ByteArray) (z : Nat) (k : Int) (w : World) (h : uriL (byteL s) = .error (z, k)) (hC : CLS w) (hG : GM w) (hP : PT w) : Calls Tryz.prog 43 #[.string s, .int .i64 z, .int .u8 k] w fun e w' => e = .returned (.bool true) ∧ Below w.heap.size w w' := by
  have PW := kd (parse_wrong s h w hC hG hP)
  clear h hC hG hP
  go_enter Tryz.func43, Tryz.ntmps43
  go_wp2_with fail
  refine PW.out.mono ?_
  rintro e w1 ⟨rfl, hb1⟩
  have S1 := kd hb1
  clear hb1
  have RZ := kd (Row.new w1 32 [.string ⟨#[]⟩, .string ⟨#[]⟩, .string ⟨#[]⟩, .int .i64 0, .slice none 0 0, .slice none 0 0])
  go_wp2_with (with_reducible refine wpList_storeG rfl 32 (.tmp 7) (.tmp 13) rfl RZ.out [.string ⟨#[]⟩, .string ⟨#[]⟩, .string ⟨#[]⟩, .int .i64 0, .slice none 0 0, .slice none 0 0] rfl rfl (lenU _ _ _ _ _ _ _ _ _ _ _ _) (sizeU _ _ _ _ _ _) (u_one _ _ _ _) ?_)
  intro w2 R1 G_
  have S2 := kd (below_store (w := w1) (T := 32) (zs := [.string ⟨#[]⟩, .string ⟨#[]⟩, .string ⟨#[]⟩, .int .i64 0, .slice none 0 0, .slice none 0 0]) (Below.refl _ _) G_.out)
  clear RZ G_
  have B2 := kd (bthen S1.out S2.out)
  clear S1 S2
  have k0 : w2.cell? ⟨w1.heap.size, 0, none⟩ = some (.string ⟨#[]⟩) := R1.out.cell 0
  have k1 : w2.cell? ⟨w1.heap.size, 1, none⟩ = some (.string ⟨#[]⟩) := R1.out.cell 1
  have k2 : w2.cell? ⟨w1.heap.size, 2, none⟩ = some (.string ⟨#[]⟩) := R1.out.cell 2
  have k3 : w2.cell? ⟨w1.heap.size, 3, none⟩ = some (.int .i64 0) := R1.out.cell 3
  have k4 : w2.cell? ⟨w1.heap.size, 4, none⟩ = some (.slice none 0 0) := R1.out.cell 4
  have k5 : w2.cell? ⟨w1.heap.size, 5, none⟩ = some (.slice none 0 0) := R1.out.cell 5
  clear R1
  go_wp2_with fail
  refine (same_zero w2).mono ?_
  rintro _ w3 ⟨rfl, hb3⟩
  have B3 := kd (bthen B2.out hb3)
  clear k0 k1 k2 k3 k4 k5
  go_wp2_with fail
  go_ret
  exact ⟨rfl, B3.out⟩
structure AArg (w : World) (a : Adr) (A1 A2 A3 : Option Addr) : Prop where
  ds : By a.ds
  u : UArg w a.u A1 A2
  sp : ∀ p ∈ a.ps, pmSz p
  r3 : Rds w w.heap.size A3 (pms a.ps)
  l3 : a.ps.length ≤ 16000000
theorem AArg.step {w w' : World} {a : Adr} {A1 A2 A3 : Option Addr} (h : AArg w a A1 A2 A3) (hb : Below w.heap.size w w') : AArg w' a A1 A2 A3 := { h with u := h.u.step hb, r3 := (h.r3.below hb).up hb.size }
def aS (a : Adr) (A1 A2 A3 : Option Addr) (c1 c2 c3 : Nat) : Value := .agg #[.string (strOfNums a.ds), .string (strOfNums a.u.sc), .string (strOfNums a.u.us), .string (strOfNums a.u.ho), .int .i64 a.u.po, .slice A1 a.u.ps.length c1, .slice A2 a.u.hs.length c2, .slice A3 a.ps.length c3]
def AR0 : Adr := ⟨[], UR0, []⟩
theorem aarg_zero (w : World) : AArg w AR0 none none none :=
  ⟨byD rfl, ⟨⟨byD rfl, byD rfl, byD rfl, (fun p hp => by cases hp), (fun p hp => by cases hp)⟩, by decide, by decide, by decide, (fun p hp => by cases hp), (fun p hp => by cases hp), (fun h => absurd h (by decide)), (fun h => absurd h (by decide)), by decide, by decide⟩, (fun p hp => by cases hp), (fun h => absurd h (by decide)), by decide⟩
set_option maxHeartbeats 2000000 in
theorem samead_one (a : Adr) (A1 A2 A3 B1 B2 B3 : Option Addr) (c1 c2 c3 d1 d2 d3 : Nat) (w : World) (H : AArg w a A1 A2 A3) (H2 : AArg w a B1 B2 B3) :
    Calls Tryz.prog 28 #[aS a A1 A2 A3 c1 c2 c3, aS a B1 B2 B3 d1 d2 d3] w fun e w' => e = .returned (.bool true) ∧ Below w.heap.size w w' := by
  obtain ⟨r1, r2, hb⟩ := two_rows w 38 38 [.string (strOfNums a.ds), .string (strOfNums a.u.sc), .string (strOfNums a.u.us), .string (strOfNums a.u.ho), .int .i64 a.u.po, .slice A1 a.u.ps.length c1, .slice A2 a.u.hs.length c2, .slice A3 a.ps.length c3] [.string (strOfNums a.ds), .string (strOfNums a.u.sc), .string (strOfNums a.u.us), .string (strOfNums a.u.ho), .int .i64 a.u.po, .slice B1 a.u.ps.length d1, .slice B2 a.u.hs.length d2, .slice B3 a.ps.length d3]
  have R1 := kd r1; have R2 := kd r2; have B0 := kd hb
  have HA := kd (H.step hb); have HB := kd (H2.step hb)
  clear r1 r2 hb H H2
  unfold aS
  go_enter Tryz.func28, Tryz.ntmps28
  go_upto_region 1 with (fail)
  generalize (w.alloc (.cells #[.string (strOfNums a.ds), .string (strOfNums a.u.sc), .string (strOfNums a.u.us), .string (strOfNums a.u.ho), .int .i64 a.u.po, .slice A1 a.u.ps.length c1, .slice A2 a.u.hs.length c2, .slice A3 a.ps.length c3] 38)).alloc (.cells #[.string (strOfNums a.ds), .string (strOfNums a.u.sc), .string (strOfNums a.u.us), .string (strOfNums a.u.ho), .int .i64 a.u.po, .slice B1 a.u.ps.length d1, .slice B2 a.u.hs.length d2, .slice B3 a.ps.length d3] 38) = w1 at *
  obtain ⟨g2, hg2⟩ : ∃ g, w.heap.size + 1 = g := ⟨_, rfl⟩
  obtain ⟨g1, hg1⟩ : ∃ g, w.heap.size = g := ⟨_, rfl⟩
  rw [hg2] at R2 ⊢
  rw [hg1] at R1 ⊢
  clear hg2 hg1
  have k0 : w1.cell? ⟨g1, 0, none⟩ = some (.string (strOfNums a.ds)) := R1.out.cell 0
  have k1 : w1.cell? ⟨g1, 1, none⟩ = some (.string (strOfNums a.u.sc)) := R1.out.cell 1
  have k2 : w1.cell? ⟨g1, 2, none⟩ = some (.string (strOfNums a.u.us)) := R1.out.cell 2
  have k3 : w1.cell? ⟨g1, 3, none⟩ = some (.string (strOfNums a.u.ho)) := R1.out.cell 3
  have k4 : w1.cell? ⟨g1, 4, none⟩ = some (.int .i64 a.u.po) := R1.out.cell 4
  have k5 : w1.cell? ⟨g1, 5, none⟩ = some (.slice A1 a.u.ps.length c1) := R1.out.cell 5
  have k6 : w1.cell? ⟨g1, 6, none⟩ = some (.slice A2 a.u.hs.length c2) := R1.out.cell 6
  have k7 : w1.cell? ⟨g1, 7, none⟩ = some (.slice A3 a.ps.length c3) := R1.out.cell 7
  have m0 : w1.cell? ⟨g2, 0, none⟩ = some (.string (strOfNums a.ds)) := R2.out.cell 0
  have m1 : w1.cell? ⟨g2, 1, none⟩ = some (.string (strOfNums a.u.sc)) := R2.out.cell 1
  have m2 : w1.cell? ⟨g2, 2, none⟩ = some (.string (strOfNums a.u.us)) := R2.out.cell 2
  have m3 : w1.cell? ⟨g2, 3, none⟩ = some (.string (strOfNums a.u.ho)) := R2.out.cell 3
  have m4 : w1.cell? ⟨g2, 4, none⟩ = some (.int .i64 a.u.po) := R2.out.cell 4
  have m5 : w1.cell? ⟨g2, 5, none⟩ = some (.slice B1 a.u.ps.length d1) := R2.out.cell 5
  have m6 : w1.cell? ⟨g2, 6, none⟩ = some (.slice B2 a.u.hs.length d2) := R2.out.cell 6
  have m7 : w1.cell? ⟨g2, 7, none⟩ = some (.slice B3 a.ps.length d3) := R2.out.cell 7
  go_wp2_with fail
  refine (same_one A1 A2 B1 B2 c1 c2 d1 d2 w1 HA.out.u HB.out.u).mono ?_
  rintro _ w2 ⟨rfl, hb2⟩
  have B2' := kd (bthen B0.out hb2)
  have HA2 := kd (HA.out.step hb2); have HB2 := kd (HB.out.step hb2)
  replace R1 := kd (R1.out.below hb2); replace R2 := kd (R2.out.below hb2)
  clear hb2 B0 HA HB k0 m0 k1 m1 k2 m2 k3 m3 k4 m4 k5 m5 k6 m6 k7 m7
  have k0 : w2.cell? ⟨g1, 0, none⟩ = some (.string (strOfNums a.ds)) := R1.out.cell 0
  have k1 : w2.cell? ⟨g1, 1, none⟩ = some (.string (strOfNums a.u.sc)) := R1.out.cell 1
  have k2 : w2.cell? ⟨g1, 2, none⟩ = some (.string (strOfNums a.u.us)) := R1.out.cell 2
  have k3 : w2.cell? ⟨g1, 3, none⟩ = some (.string (strOfNums a.u.ho)) := R1.out.cell 3
  have k4 : w2.cell? ⟨g1, 4, none⟩ = some (.int .i64 a.u.po) := R1.out.cell 4
  have k5 : w2.cell? ⟨g1, 5, none⟩ = some (.slice A1 a.u.ps.length c1) := R1.out.cell 5
  have k6 : w2.cell? ⟨g1, 6, none⟩ = some (.slice A2 a.u.hs.length c2) := R1.out.cell 6
  have k7 : w2.cell? ⟨g1, 7, none⟩ = some (.slice A3 a.ps.length c3) := R1.out.cell 7
  have m0 : w2.cell? ⟨g2, 0, none⟩ = some (.string (strOfNums a.ds)) := R2.out.cell 0
  have m1 : w2.cell? ⟨g2, 1, none⟩ = some (.string (strOfNums a.u.sc)) := R2.out.cell 1
  have m2 : w2.cell? ⟨g2, 2, none⟩ = some (.string (strOfNums a.u.us)) := R2.out.cell 2
  have m3 : w2.cell? ⟨g2, 3, none⟩ = some (.string (strOfNums a.u.ho)) := R2.out.cell 3
  have m4 : w2.cell? ⟨g2, 4, none⟩ = some (.int .i64 a.u.po) := R2.out.cell 4
  have m5 : w2.cell? ⟨g2, 5, none⟩ = some (.slice B1 a.u.ps.length d1) := R2.out.cell 5
  have m6 : w2.cell? ⟨g2, 6, none⟩ = some (.slice B2 a.u.hs.length d2) := R2.out.cell 6
  have m7 : w2.cell? ⟨g2, 7, none⟩ = some (.slice B3 a.ps.length d3) := R2.out.cell 7
  have SP := kd (samepms_any A3 B3 _ c3 _ d3 a.ps a.ps w2 HA2.out.r3 HB2.out.r3 rfl rfl HA2.out.l3 HA2.out.l3 (fun p hp => ⟨(HA2.out.sp p hp).1, (HA2.out.sp p hp).2.1⟩) (fun p hp => ⟨(HA2.out.sp p hp).1, (HA2.out.sp p hp).2.1⟩))
  rw [samePs_iff.2 rfl] at SP
  go_wp2_with fail
  refine SP.out.mono ?_
  rintro _ w3 ⟨rfl, q, rfl⟩
  go_wp2_with fail
  go_ret
  exact ⟨rfl, bthen B2'.out (below_drewN _ _)⟩
theorem adr_wrong (s : ByteArray) {n : Nat} {k : Int} (h : adrL (byteL s) = .error (n, k)) (w : World) (hC : CLS w) (hG : GM w) (hP : PT w) : Calls Tryz.prog 26 #[.string s] w fun e w' => e = .returned (.tuple #[.agg #[.string ⟨#[]⟩, .string ⟨#[]⟩, .string ⟨#[]⟩, .string ⟨#[]⟩, .int .i64 0, .slice none 0 0, .slice none 0 0, .slice none 0 0], .int .i64 (n : Nat), .int .u8 k]) ∧ Below w.heap.size w w' := by
  refine (parseadr_any s w hC hG hP).mono ?_
  intro e w' hr
  rw [h] at hr
  exact ⟨hr.1, hr.2.1⟩
end Go.Proofs.YthfonniieaiocaaGreatDoor
