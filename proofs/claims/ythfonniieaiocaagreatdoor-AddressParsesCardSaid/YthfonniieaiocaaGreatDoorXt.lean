/- The law AddressParses. -/
import Derived.Test.YthfonniieaiocaaGreatDoorXq
import Derived.Test.YthfonniieaiocaaGreatDoorYa
set_option linter.unusedVariables false
set_option linter.unusedSimpArgs false
namespace Go.Proofs.YthfonniieaiocaaGreatDoor
open Go.RowKit

theorem rparse_good (s : ByteArray) {u : Uri} (h : uriL (byteL s) = .ok u) (w : World) : Calls Tryz.prog 24 #[.string s] w fun e w' => ∃ A1 A2 c1 c2, e = .returned (.tuple #[uS u A1 A2 c1 c2, .int .i64 0, .int .u8 0]) ∧ Below w.heap.size w w' ∧ UArg w' u A1 A2 := by
  refine (rparse_any s w).mono ?_
  intro e w' hr
  rw [h] at hr
  obtain ⟨v1, v2, rfl, h1, h2⟩ := hr
  have hb := h1.bw
  obtain ⟨A1, c1, rfl, r1⟩ := h1.rdw
  obtain ⟨A2, c2, rfl, r2⟩ := h2.rdw
  exact ⟨A1, A2, c1, c2, rfl, hb, uarg_parsed (byteL_by s) h r1 r2⟩
theorem rparse_wrong (s : ByteArray) {n : Nat} {k : Int} (h : uriL (byteL s) = .error (n, k)) (w : World) : Calls Tryz.prog 24 #[.string s] w fun e w' => e = .returned (.tuple #[.agg #[.string ⟨#[]⟩, .string ⟨#[]⟩, .string ⟨#[]⟩, .int .i64 0, .slice none 0 0, .slice none 0 0], .int .i64 (n : Nat), .int .u8 k]) ∧ Below w.heap.size w w' := by
  refine (rparse_any s w).mono ?_
  intro e w' hr
  rw [h] at hr
  exact ⟨hr.1, hr.2.1⟩
set_option maxRecDepth 100000 in
set_option maxHeartbeats 2000000 in
theorem parses_any (s : ByteArray) (w : World) (hC : CLS w) (hG : GM w) (hP : PT w) : Calls Tryz.prog 4 #[.string s] w fun e w' => e = .returned (.bool true) ∧ Below w.heap.size w w' := by
  have HC := kd (fun w' (h : Below w.heap.size w w') => hC.below h)
  have HG := kd (fun w' (h : Below w.heap.size w w') => hG.below h)
  have HP := kd (fun w' (h : Below w.heap.size w w') => hP.below h)
  have AW := kd (fun w' (h : Below w.heap.size w w') => awake_any w' (hC.below h) (hG.below h) (hP.below h))
  clear hC hG hP
  go_enter Tryz.func4, Tryz.ntmps4
  cases hu : uriL (byteL s) with
  | error q =>
    obtain ⟨n, k⟩ := q
    have HU := kd hu
    have dk : (k == k) = true := by simp
    have dn : ((n : Int) == (n : Int)) = true := by simp
    clear hu
    go_wp2_with fail
    refine (parse_wrong s HU.out w (HC.out _ (Below.refl _ _)) (HG.out _ (Below.refl _ _)) (HP.out _ (Below.refl _ _))).mono ?_
    rintro e w1 ⟨rfl, hb1⟩
    have S1 := kd hb1
    clear hb1
    have RZ := kd (Row.new w1 32 [.string ⟨#[]⟩, .string ⟨#[]⟩, .string ⟨#[]⟩, .int .i64 0, .slice none 0 0, .slice none 0 0])
    go_wp2_with (with_reducible refine wpList_storeG rfl 32 (.tmp 3) (.tmp 12) rfl RZ.out [.string ⟨#[]⟩, .string ⟨#[]⟩, .string ⟨#[]⟩, .int .i64 0, .slice none 0 0, .slice none 0 0] rfl rfl (lenU _ _ _ _ _ _ _ _ _ _ _ _) (sizeU _ _ _ _ _ _) (u_one _ _ _ _) ?_)
    intro w2 R1 G_
    have S2 := kd (below_store (w := w1) (T := 32) (zs := [.string ⟨#[]⟩, .string ⟨#[]⟩, .string ⟨#[]⟩, .int .i64 0, .slice none 0 0, .slice none 0 0]) (Below.refl _ _) G_.out)
    clear RZ G_
    have B2 := kd (bthen S1.out S2.out)
    clear S1 S2
    go_wp2_with fail
    refine (rparse_wrong s HU.out w2).mono ?_
    rintro e w3 ⟨rfl, hb3⟩
    have B3 := kd (bthen B2.out hb3)
    replace R1 := kd (R1.out.below hb3)
    clear hb3 B2 HU
    have RZ := kd (Row.new w3 32 [.string ⟨#[]⟩, .string ⟨#[]⟩, .string ⟨#[]⟩, .int .i64 0, .slice none 0 0, .slice none 0 0])
    go_wp2_with (with_reducible refine wpList_storeG rfl 32 (.tmp 6) (.tmp 18) rfl RZ.out [.string ⟨#[]⟩, .string ⟨#[]⟩, .string ⟨#[]⟩, .int .i64 0, .slice none 0 0, .slice none 0 0] rfl rfl (lenU _ _ _ _ _ _ _ _ _ _ _ _) (sizeU _ _ _ _ _ _) (u_one _ _ _ _) ?_)
    intro w4 R2 G_
    have S4 := kd (below_store (w := w3) (T := 32) (zs := [.string ⟨#[]⟩, .string ⟨#[]⟩, .string ⟨#[]⟩, .int .i64 0, .slice none 0 0, .slice none 0 0]) (Below.refl _ _) G_.out)
    clear RZ G_
    have B4 := kd (bthen B3.out S4.out)
    replace R1 := kd (R1.out.below S4.out)
    clear S4 B3
    generalize w1.heap.size = g1 at *
    generalize w3.heap.size = g2 at *
    have k0 : w4.cell? ⟨g1, 0, none⟩ = some (.string ⟨#[]⟩) := R1.out.cell 0
    have k1 : w4.cell? ⟨g1, 1, none⟩ = some (.string ⟨#[]⟩) := R1.out.cell 1
    have k2 : w4.cell? ⟨g1, 2, none⟩ = some (.string ⟨#[]⟩) := R1.out.cell 2
    have k3 : w4.cell? ⟨g1, 3, none⟩ = some (.int .i64 0) := R1.out.cell 3
    have k4 : w4.cell? ⟨g1, 4, none⟩ = some (.slice none 0 0) := R1.out.cell 4
    have k5 : w4.cell? ⟨g1, 5, none⟩ = some (.slice none 0 0) := R1.out.cell 5
    have m0 : w4.cell? ⟨g2, 0, none⟩ = some (.string ⟨#[]⟩) := R2.out.cell 0
    have m1 : w4.cell? ⟨g2, 1, none⟩ = some (.string ⟨#[]⟩) := R2.out.cell 1
    have m2 : w4.cell? ⟨g2, 2, none⟩ = some (.string ⟨#[]⟩) := R2.out.cell 2
    have m3 : w4.cell? ⟨g2, 3, none⟩ = some (.int .i64 0) := R2.out.cell 3
    have m4 : w4.cell? ⟨g2, 4, none⟩ = some (.slice none 0 0) := R2.out.cell 4
    have m5 : w4.cell? ⟨g2, 5, none⟩ = some (.slice none 0 0) := R2.out.cell 5
    go_wp2_with fail
    refine (same_zero w4).mono ?_
    rintro _ w5 ⟨rfl, hb5⟩
    have B5 := kd (bthen B4.out hb5)
    clear B4 hb5 k0 k1 k2 k3 k4 k5 m0 m1 m2 m3 m4 m5
    go_wp2_with fail
    refine (AW.out _ B5.out).mono ?_
    rintro _ w6 ⟨rfl, hb6⟩
    have B6 := kd (bthen B5.out hb6)
    clear hb6 B5
    go_wp2_with fail
    go_ret
    exact ⟨rfl, B6.out⟩
  | ok u =>
    have HU := kd hu
    clear hu
    go_wp2_with fail
    refine (parse_good s HU.out w (HC.out _ (Below.refl _ _)) (HG.out _ (Below.refl _ _)) (HP.out _ (Below.refl _ _))).mono ?_
    rintro e w1 ⟨A1, A2, c1, c2, rfl, hb1, ua1⟩
    have S1 := kd hb1
    have UA := kd ua1
    clear hb1 ua1
    unfold uS
    have RZ := kd (Row.new w1 32 [.string ⟨#[]⟩, .string ⟨#[]⟩, .string ⟨#[]⟩, .int .i64 0, .slice none 0 0, .slice none 0 0])
    go_wp2_with (with_reducible refine wpList_storeG rfl 32 (.tmp 3) (.tmp 12) rfl RZ.out [.string (strOfNums u.sc), .string (strOfNums u.us), .string (strOfNums u.ho), .int .i64 u.po, .slice A1 u.ps.length c1, .slice A2 u.hs.length c2] rfl rfl (lenU _ _ _ _ _ _ _ _ _ _ _ _) (sizeU _ _ _ _ _ _) (u_one _ _ _ _) ?_)
    intro w2 R1 G_
    have S2 := kd (below_store (w := w1) (T := 32) (zs := [.string ⟨#[]⟩, .string ⟨#[]⟩, .string ⟨#[]⟩, .int .i64 0, .slice none 0 0, .slice none 0 0]) (Below.refl _ _) G_.out)
    clear RZ G_
    replace UA := kd (UA.out.step S2.out)
    have B2 := kd (bthen S1.out S2.out)
    clear S1 S2
    go_wp2_with fail
    refine (rparse_good s HU.out w2).mono ?_
    rintro e w3 ⟨D1, D2, d1, d2, rfl, hb3, ua3⟩
    have B3 := kd (bthen B2.out hb3)
    have UB := kd ua3
    replace UA := kd (UA.out.step hb3)
    replace R1 := kd (R1.out.below hb3)
    clear hb3 B2 HU ua3
    unfold uS
    have RZ := kd (Row.new w3 32 [.string ⟨#[]⟩, .string ⟨#[]⟩, .string ⟨#[]⟩, .int .i64 0, .slice none 0 0, .slice none 0 0])
    go_wp2_with (with_reducible refine wpList_storeG rfl 32 (.tmp 6) (.tmp 18) rfl RZ.out [.string (strOfNums u.sc), .string (strOfNums u.us), .string (strOfNums u.ho), .int .i64 u.po, .slice D1 u.ps.length d1, .slice D2 u.hs.length d2] rfl rfl (lenU _ _ _ _ _ _ _ _ _ _ _ _) (sizeU _ _ _ _ _ _) (u_one _ _ _ _) ?_)
    intro w4 R2 G_
    have S4 := kd (below_store (w := w3) (T := 32) (zs := [.string ⟨#[]⟩, .string ⟨#[]⟩, .string ⟨#[]⟩, .int .i64 0, .slice none 0 0, .slice none 0 0]) (Below.refl _ _) G_.out)
    clear RZ G_
    have B4 := kd (bthen B3.out S4.out)
    replace R1 := kd (R1.out.below S4.out)
    replace UA := kd (UA.out.step S4.out)
    replace UB := kd (UB.out.step S4.out)
    clear S4 B3
    generalize w1.heap.size = g1 at *
    generalize w3.heap.size = g2 at *
    have k0 : w4.cell? ⟨g1, 0, none⟩ = some (.string (strOfNums u.sc)) := R1.out.cell 0
    have k1 : w4.cell? ⟨g1, 1, none⟩ = some (.string (strOfNums u.us)) := R1.out.cell 1
    have k2 : w4.cell? ⟨g1, 2, none⟩ = some (.string (strOfNums u.ho)) := R1.out.cell 2
    have k3 : w4.cell? ⟨g1, 3, none⟩ = some (.int .i64 u.po) := R1.out.cell 3
    have k4 : w4.cell? ⟨g1, 4, none⟩ = some (.slice A1 u.ps.length c1) := R1.out.cell 4
    have k5 : w4.cell? ⟨g1, 5, none⟩ = some (.slice A2 u.hs.length c2) := R1.out.cell 5
    have m0 : w4.cell? ⟨g2, 0, none⟩ = some (.string (strOfNums u.sc)) := R2.out.cell 0
    have m1 : w4.cell? ⟨g2, 1, none⟩ = some (.string (strOfNums u.us)) := R2.out.cell 1
    have m2 : w4.cell? ⟨g2, 2, none⟩ = some (.string (strOfNums u.ho)) := R2.out.cell 2
    have m3 : w4.cell? ⟨g2, 3, none⟩ = some (.int .i64 u.po) := R2.out.cell 3
    have m4 : w4.cell? ⟨g2, 4, none⟩ = some (.slice D1 u.ps.length d1) := R2.out.cell 4
    have m5 : w4.cell? ⟨g2, 5, none⟩ = some (.slice D2 u.hs.length d2) := R2.out.cell 5
    go_wp2_with fail
    refine (same_one A1 A2 D1 D2 c1 c2 d1 d2 w4 UA.out UB.out).mono ?_
    rintro _ w5 ⟨rfl, hb5⟩
    have B5 := kd (bthen B4.out hb5)
    clear B4 hb5 k0 k1 k2 k3 k4 k5 m0 m1 m2 m3 m4 m5 R1 R2 UA UB
    go_wp2_with fail
    refine (AW.out _ B5.out).mono ?_
    rintro _ w6 ⟨rfl, hb6⟩
    have B6 := kd (bthen B5.out hb6)
    clear hb6 B5
    go_wp2_with fail
    go_ret
    exact ⟨rfl, B6.out⟩
end Go.Proofs.YthfonniieaiocaaGreatDoor
