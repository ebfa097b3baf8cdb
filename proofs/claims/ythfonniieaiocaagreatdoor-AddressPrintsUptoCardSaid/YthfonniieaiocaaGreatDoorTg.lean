/- The reference's Equal, the law AddressPrints. -/
import Derived.Test.YthfonniieaiocaaGreatDoorTf
import Derived.Test.YthfonniieaiocaaGreatDoorYa
import Derived.BigQuiet
set_option linter.unusedVariables false
set_option linter.unusedSimpArgs false
set_option maxRecDepth 100000
namespace Go.Proofs.YthfonniieaiocaaGreatDoor
open Go.RowKit

def zU : Uri := ⟨[], [], [], 0, [], []⟩
def nU (u : Uri) : Uri := match normL u with | some n => n | none => zU
def nK (u : Uri) : Int := match normL u with | some _ => 0 | none => 2
def tU (u : Uri) : List Int := match printU u with | some s => s | none => []
def tK (u : Uri) : Int := match printU u with | some _ => 0 | none => 2
theorem zU_arg (w : World) : UArg w zU none none := ⟨⟨byD rfl, byD rfl, byD rfl, fun _ h => by simp [zU] at h, fun _ h => by simp [zU] at h⟩, Nat.zero_le _, Nat.zero_le _, Nat.zero_le _, fun _ h => by simp [zU] at h, fun _ h => by simp [zU] at h, fun h => absurd h (Nat.lt_irrefl _), fun h => absurd h (Nat.lt_irrefl _), Nat.zero_le _, Nat.zero_le _⟩
def NormB (w : World) (n : Uri) (k : Int) (e : Ending) (w' : World) : Prop := ∃ B1 B2 d1 d2, e = .returned (.tuple #[uS n B1 B2 d1 d2, .int .u8 k]) ∧ Below w.heap.size w w' ∧ UArg w' n B1 B2
theorem rnorm_both (u : Uri) (A1 A2 : Option Addr) (c1 c2 : Nat) (w : World) (H : RArg w u A1 A2 c1 c2) : Calls Tryz.prog 34 #[uS u A1 A2 c1 c2] w (NormB w (nU u) (nK u)) := by
  cases h : normL u with
  | none =>
    refine (rnorm_bad h A1 A2 c1 c2 w H).mono ?_
    rintro _ w' ⟨rfl, hb⟩
    rw [show nU u = zU by unfold nU; rw [h], show nK u = 2 by unfold nK; rw [h]]
    exact ⟨none, none, 0, 0, rfl, hb, zU_arg w'⟩
  | some n =>
    refine (rnorm_good h A1 A2 c1 c2 w H).mono ?_
    rintro _ w' ⟨B1, B2, d1, d2, rfl, hb, ua⟩
    rw [show nU u = n by unfold nU; rw [h], show nK u = 0 by unfold nK; rw [h]]
    exact ⟨B1, B2, d1, d2, rfl, hb, ua⟩
theorem norm_both (u : Uri) (A1 A2 : Option Addr) (c1 c2 : Nat) (w : World) (H : UArg w u A1 A2) (hG : GM w) (hP : PT w) : Calls Tryz.prog 33 #[uS u A1 A2 c1 c2] w (NormB w (nU u) (nK u)) := by
  cases h : normL u with
  | none =>
    refine (norm_bad h A1 A2 c1 c2 w H hG hP).mono ?_
    rintro _ w' ⟨rfl, hb⟩
    rw [show nU u = zU by unfold nU; rw [h], show nK u = 2 by unfold nK; rw [h]]
    exact ⟨none, none, 0, 0, rfl, hb, zU_arg w'⟩
  | some n =>
    refine (norm_good h A1 A2 c1 c2 w H hG hP).mono ?_
    rintro _ w' ⟨B1, B2, d1, d2, rfl, hb, ua⟩
    rw [show nU u = n by unfold nU; rw [h], show nK u = 0 by unfold nK; rw [h]]
    exact ⟨B1, B2, d1, d2, rfl, hb, ua⟩
theorem pri_both {w w' : World} {u : Uri} {e : Ending} (h : PriP w (printU u) e w') : e = .returned (.tuple #[.string (strOfNums (tU u)), .int .u8 (tK u)]) ∧ Below w.heap.size w w' := by
  cases hp : printU u with
  | none =>
    rw [hp] at h
    rw [show tU u = [] by unfold tU; rw [hp], show tK u = 2 by unfold tK; rw [hp]]
    exact ⟨h.2, h.1⟩
  | some s =>
    rw [hp] at h
    rw [show tU u = s by unfold tU; rw [hp], show tK u = 0 by unfold tK; rw [hp]]
    exact ⟨h.2, h.1⟩
theorem eqU_both (u v : Uri) : eqU u v = (decide (nK u = 0) && decide (nK v = 0) && sameU (nU u) (nU v)) := by
  unfold eqU nK nU
  cases normL u with
  | none => cases normL v <;> rfl
  | some x => cases normL v <;> rfl
theorem nK_two (u : Uri) : nK u = 0 ∨ nK u = 2 := by
  unfold nK
  cases normL u with
  | none => exact .inr rfl
  | some _ => exact .inl rfl
set_option maxHeartbeats 4000000 in
theorem requal_any (u v : Uri) (A1 A2 B1 B2 : Option Addr) (c1 c2 d1 d2 : Nat) (w : World) (H : RArg w u A1 A2 c1 c2) (H2 : RArg w v B1 B2 d1 d2) :
    Calls Tryz.prog 37 #[uS u A1 A2 c1 c2, uS v B1 B2 d1 d2] w fun e w' => e = .returned (.bool (eqU u v)) ∧ Below w.heap.size w w' := by
  have NG := kd (fun w' (hb : Below w.heap.size w w') => rnorm_both u A1 A2 c1 c2 w' (H.step hb))
  have MG := kd (fun w' (hb : Below w.heap.size w w') => rnorm_both v B1 B2 d1 d2 w' (H2.step hb))
  have F := kd (eqU_both u v)
  have K1 := kd (nK_two u)
  have K2 := kd (nK_two v)
  generalize eqU u v = R at *
  generalize nK u = k at *
  generalize nK v = l at *
  generalize nU u = x at *
  generalize nU v = y at *
  obtain ⟨R1, R2, W2⟩ := two_rows w 32 32 [.string (strOfNums u.sc), .string (strOfNums u.us), .string (strOfNums u.ho), .int .i64 u.po, .slice A1 u.ps.length c1, .slice A2 u.hs.length c2] [.string (strOfNums v.sc), .string (strOfNums v.us), .string (strOfNums v.ho), .int .i64 v.po, .slice B1 v.ps.length d1, .slice B2 v.hs.length d2]
  have R1 := kd R1
  have R2 := kd R2
  have B2_ := kd W2
  clear W2 H H2
  unfold uS
  go_enter Tryz.func37, Tryz.ntmps37
  go_upto_region 1 with (fail)
  generalize (w.alloc (.cells #[.string (strOfNums u.sc), .string (strOfNums u.us), .string (strOfNums u.ho), .int .i64 u.po, .slice A1 u.ps.length c1, .slice A2 u.hs.length c2] 32)).alloc (.cells #[.string (strOfNums v.sc), .string (strOfNums v.us), .string (strOfNums v.ho), .int .i64 v.po, .slice B1 v.ps.length d1, .slice B2 v.hs.length d2] 32) = w2 at *
  generalize w.heap.size + 1 = g2 at *
  generalize hg : w.heap.size = g1 at *
  replace B2_ := kd (show Below w.heap.size w w2 by rw [hg]; exact B2_.out)
  have CV := kd (fun w' (h : Below w.heap.size w w') => show Below g1 w w' from hg ▸ h)
  go_wp2_with (with_reducible refine wpList_loadR rfl 32 (.tmp 2) rfl R1.out rfl Tryz.underlying32 rfl (sizeU _ _ _ _ _ _) ?_)
  refine (NG.out _ (CV.out _ B2_.out)).mono ?_
  rintro e w3 ⟨C1, C2, e1, e2, rfl, hb3, ua3⟩
  have S3 := kd hb3
  have UX := kd ua3
  clear hb3 ua3 R1 NG
  unfold uS
  go_upto_region 2 with (with_reducible refine wpList_storeN rfl 32 (.tmp 5) (.tmp 12) rfl [.string ⟨#[]⟩, .string ⟨#[]⟩, .string ⟨#[]⟩, .int .i64 0, .slice none 0 0, .slice none 0 0] [.string (strOfNums x.sc), .string (strOfNums x.us), .string (strOfNums x.ho), .int .i64 x.po, .slice C1 x.ps.length e1, .slice C2 x.hs.length e2] rfl rfl (lenU _ _ _ _ _ _ _ _ _ _ _ _) (sizeU _ _ _ _ _ _) (u_one _ _ _ _) ?_; intro w4 R5 S4)
  have S5 := kd (bthen S3.out S4.out)
  have B4 := kd (bthen B2_.out S5.out)
  replace R2 := kd (R2.out.below S5.out)
  replace UX := kd (UX.out.step S4.out)
  clear S3 S4 S5 B2_
  generalize w3.heap.size = g5 at *
  go_wp2_with (with_reducible refine wpList_loadR rfl 32 (.tmp 3) rfl R2.out rfl Tryz.underlying32 rfl (sizeU _ _ _ _ _ _) ?_)
  refine (MG.out _ (CV.out _ B4.out)).mono ?_
  rintro e w5 ⟨D1, D2, f1, f2, rfl, hb5, ua5⟩
  have S5 := kd hb5
  have UY := kd ua5
  clear hb5 ua5 R2 MG
  unfold uS
  go_upto_region 3 with (with_reducible refine wpList_storeN rfl 32 (.tmp 7) (.tmp 17) rfl [.string ⟨#[]⟩, .string ⟨#[]⟩, .string ⟨#[]⟩, .int .i64 0, .slice none 0 0, .slice none 0 0] [.string (strOfNums y.sc), .string (strOfNums y.us), .string (strOfNums y.ho), .int .i64 y.po, .slice D1 y.ps.length f1, .slice D2 y.hs.length f2] rfl rfl (lenU _ _ _ _ _ _ _ _ _ _ _ _) (sizeU _ _ _ _ _ _) (u_one _ _ _ _) ?_; intro w6 R7 S6)
  have S7 := kd (bthen S5.out S6.out)
  have B6 := kd (bthen B4.out S7.out)
  replace R5 := kd (R5.out.below S7.out)
  replace UX := kd (UX.out.step S7.out)
  replace UY := kd (UY.out.step S6.out)
  clear S5 S6 S7 B4
  generalize w5.heap.size = g7 at *
  have k0 : w6.cell? ⟨g5, 0, none⟩ = some (.string (strOfNums x.sc)) := R5.out.cell 0
  have k1 : w6.cell? ⟨g5, 1, none⟩ = some (.string (strOfNums x.us)) := R5.out.cell 1
  have k2 : w6.cell? ⟨g5, 2, none⟩ = some (.string (strOfNums x.ho)) := R5.out.cell 2
  have k3 : w6.cell? ⟨g5, 3, none⟩ = some (.int .i64 x.po) := R5.out.cell 3
  have k4 : w6.cell? ⟨g5, 4, none⟩ = some (.slice C1 x.ps.length e1) := R5.out.cell 4
  have k5 : w6.cell? ⟨g5, 5, none⟩ = some (.slice C2 x.hs.length e2) := R5.out.cell 5
  have q0 : w6.cell? ⟨g7, 0, none⟩ = some (.string (strOfNums y.sc)) := R7.out.cell 0
  have q1 : w6.cell? ⟨g7, 1, none⟩ = some (.string (strOfNums y.us)) := R7.out.cell 1
  have q2 : w6.cell? ⟨g7, 2, none⟩ = some (.string (strOfNums y.ho)) := R7.out.cell 2
  have q3 : w6.cell? ⟨g7, 3, none⟩ = some (.int .i64 y.po) := R7.out.cell 3
  have q4 : w6.cell? ⟨g7, 4, none⟩ = some (.slice D1 y.ps.length f1) := R7.out.cell 4
  have q5 : w6.cell? ⟨g7, 5, none⟩ = some (.slice D2 y.hs.length f2) := R7.out.cell 5
  rcases K1.out with rfl | rfl
  · rcases K2.out with rfl | rfl
    · have SA := kd (same_any x y C1 C2 D1 D2 _ _ _ _ e1 e2 f1 f2 w6 UX.out.by_ UY.out.by_ rfl rfl rfl rfl UX.out.r1 UX.out.r2 UY.out.r1 UY.out.r2 UX.out.l1 UX.out.l2 UY.out.l1 UY.out.l2)
      go_wp2_with fail
      refine SA.out.mono ?_
      rintro _ w7 ⟨rfl, hb7⟩
      have B7 := kd (bthen B6.out hb7)
      clear hb7 SA UX UY
      go_wp2_with fail
      go_ret
      exact ⟨by rw [F.out]; rfl, hg ▸ B7.out⟩
    · go_wp2_with fail
      go_ret
      exact ⟨by rw [F.out]; rfl, hg ▸ B6.out⟩
  · go_wp2_with fail
    go_ret
    exact ⟨by rw [F.out]; rfl, hg ▸ B6.out⟩
set_option maxHeartbeats 8000000 in
theorem prints_any (u v : Uri) (A1 A2 B1 B2 : Option Addr) (c1 c2 d1 d2 : Nat) (w : World) (H : RArg w u A1 A2 c1 c2) (H2 : RArg w v B1 B2 d1 d2) (hC : CLS w) (hG : GM w) (hP : PT w) :
    Calls Tryz.prog 9 #[uS u A1 A2 c1 c2, uS v B1 B2 d1 d2] w fun e w' => e = .returned (.bool true) ∧ Below w.heap.size w w' := by
  have AW := kd (fun w' (h : Below w.heap.size w w') => awake_any w' (hC.below h) (hG.below h) (hP.below h))
  have NG := kd (fun w' (hb : Below w.heap.size w w') => norm_both u A1 A2 c1 c2 w' (H.step hb).a (hG.below hb) (hP.below hb))
  have RG := kd (fun w' (hb : Below w.heap.size w w') => rnorm_both u A1 A2 c1 c2 w' (H.step hb))
  have PG := kd (fun w' (hb : Below w.heap.size w w') => print_any u A1 A2 c1 c2 w' (H.step hb).a (hC.below hb) (hG.below hb) (hP.below hb))
  have QG := kd (fun w' (hb : Below w.heap.size w w') => rprint_any u A1 A2 c1 c2 w' (H.step hb))
  have EG := kd (fun w' (hb : Below w.heap.size w w') => equal_any u v A1 A2 B1 B2 c1 c2 d1 d2 w' (H.step hb).a (H2.step hb).a (hG.below hb) (hP.below hb))
  have FG := kd (fun w' (hb : Below w.heap.size w w') => requal_any u v A1 A2 B1 B2 c1 c2 d1 d2 w' (H.step hb) (H2.step hb))
  have N1 := H.a.l1; have N2 := H.a.l2; have N3 := H2.a.l1; have N4 := H2.a.l2
  have PB := kd (fun (w w' : World) (e : Ending) (h : PriP w (printU u) e w') => pri_both h)
  generalize nU u = x at *
  generalize nK u = k at *
  generalize tU u = tx at *
  generalize tK u = tk at *
  generalize printU u = R at *
  generalize eqU u v = b at *
  obtain ⟨R1, R2, W2⟩ := two_rows w 32 32 [.string (strOfNums u.sc), .string (strOfNums u.us), .string (strOfNums u.ho), .int .i64 u.po, .slice A1 u.ps.length c1, .slice A2 u.hs.length c2] [.string (strOfNums v.sc), .string (strOfNums v.us), .string (strOfNums v.ho), .int .i64 v.po, .slice B1 v.ps.length d1, .slice B2 v.hs.length d2]
  have RU := kd R1
  have RV := kd R2
  have BB := kd W2
  clear W2 R1 R2 H H2 hC hG hP
  unfold uS at NG RG QG EG FG ⊢
  go_enter Tryz.func9, Tryz.ntmps9
  go_upto_region 1 with (fail)
  generalize (w.alloc (.cells #[.string (strOfNums u.sc), .string (strOfNums u.us), .string (strOfNums u.ho), .int .i64 u.po, .slice A1 u.ps.length c1, .slice A2 u.hs.length c2] 32)).alloc (.cells #[.string (strOfNums v.sc), .string (strOfNums v.us), .string (strOfNums v.ho), .int .i64 v.po, .slice B1 v.ps.length d1, .slice B2 v.hs.length d2] 32) = w1 at *
  generalize w.heap.size + 1 = g2 at *
  generalize hg : w.heap.size = g1 at *
  replace BB := kd (show Below w.heap.size w w1 by rw [hg]; exact BB.out)
  have CV := kd (fun w' (h : Below w.heap.size w w') => show Below g1 w w' from hg ▸ h)
  have k4 : w1.cell? ⟨g1, 4, none⟩ = some (.slice A1 u.ps.length c1) := RU.out.cell 4
  have k5 : w1.cell? ⟨g1, 5, none⟩ = some (.slice A2 u.hs.length c2) := RU.out.cell 5
  have m4 : w1.cell? ⟨g2, 4, none⟩ = some (.slice B1 v.ps.length d1) := RV.out.cell 4
  have m5 : w1.cell? ⟨g2, 5, none⟩ = some (.slice B2 v.hs.length d2) := RV.out.cell 5
  by_cases h40 : 40 < u.ps.length + u.hs.length + v.ps.length + v.hs.length
  · have d40' : (40 : Int) < (u.ps.length : Int) + (u.hs.length : Int) + (v.ps.length : Int) + (v.hs.length : Int) := by omega
    go_wp2_with fail
    refine (AW.out _ (CV.out _ BB.out)).mono ?_
    rintro _ wz ⟨rfl, hbz⟩
    have BZ := kd (bthen BB.out hbz)
    go_wp2_with fail
    go_ret
    exact ⟨rfl, hg ▸ BZ.out⟩
  have d40' : ¬ (40 : Int) < (u.ps.length : Int) + (u.hs.length : Int) + (v.ps.length : Int) + (v.hs.length : Int) := by omega
  go_upto_region 3 with (fail)
  clear h40 d40' k4 k5 m4 m5 N1 N2 N3 N4
  go_wp2_with (with_reducible refine wpList_loadR rfl 32 (.tmp 2) rfl RU.out rfl Tryz.underlying32 rfl (sizeU _ _ _ _ _ _) ?_)
  refine (NG.out _ (CV.out _ BB.out)).mono ?_
  rintro e w3 ⟨C1, C2, e1, e2, rfl, hb3, ua3⟩
  have S3 := kd hb3
  have UX := kd ua3
  clear hb3 ua3 NG
  unfold uS
  go_upto_region 4 with (with_reducible refine wpList_storeN rfl 32 (.tmp 5) (.tmp 33) rfl [.string ⟨#[]⟩, .string ⟨#[]⟩, .string ⟨#[]⟩, .int .i64 0, .slice none 0 0, .slice none 0 0] [.string (strOfNums x.sc), .string (strOfNums x.us), .string (strOfNums x.ho), .int .i64 x.po, .slice C1 x.ps.length e1, .slice C2 x.hs.length e2] rfl rfl (lenU _ _ _ _ _ _ _ _ _ _ _ _) (sizeU _ _ _ _ _ _) (u_one _ _ _ _) ?_; intro w4 R5 S4)
  have S5 := kd (bthen S3.out S4.out)
  replace BB := kd (bthen BB.out S5.out)
  replace RU := kd (RU.out.below S5.out)
  replace RV := kd (RV.out.below S5.out)
  replace UX := kd (UX.out.step S4.out)
  clear S3 S4 S5
  generalize w3.heap.size = g5 at *
  go_wp2_with (with_reducible refine wpList_loadR rfl 32 (.tmp 2) rfl RU.out rfl Tryz.underlying32 rfl (sizeU _ _ _ _ _ _) ?_)
  refine (RG.out _ (CV.out _ BB.out)).mono ?_
  rintro e w5 ⟨D1, D2, f1, f2, rfl, hb5, ua5⟩
  have S5 := kd hb5
  have UY := kd ua5
  clear hb5 ua5 RG
  unfold uS
  go_upto_region 5 with (with_reducible refine wpList_storeN rfl 32 (.tmp 7) (.tmp 38) rfl [.string ⟨#[]⟩, .string ⟨#[]⟩, .string ⟨#[]⟩, .int .i64 0, .slice none 0 0, .slice none 0 0] [.string (strOfNums x.sc), .string (strOfNums x.us), .string (strOfNums x.ho), .int .i64 x.po, .slice D1 x.ps.length f1, .slice D2 x.hs.length f2] rfl rfl (lenU _ _ _ _ _ _ _ _ _ _ _ _) (sizeU _ _ _ _ _ _) (u_one _ _ _ _) ?_; intro w6 R7 S6)
  have S7 := kd (bthen S5.out S6.out)
  replace BB := kd (bthen BB.out S7.out)
  replace RU := kd (RU.out.below S7.out)
  replace RV := kd (RV.out.below S7.out)
  replace R5 := kd (R5.out.below S7.out)
  replace UX := kd (UX.out.step S7.out)
  replace UY := kd (UY.out.step S6.out)
  clear S5 S6 S7
  generalize w5.heap.size = g7 at *
  go_wp2_with (with_reducible refine wpList_loadR rfl 32 (.tmp 2) rfl RU.out rfl Tryz.underlying32 rfl (sizeU _ _ _ _ _ _) ?_)
  refine (PG.out _ (CV.out _ BB.out)).mono ?_
  intro e w7 hp
  obtain ⟨rfl, hb7⟩ := PB.out _ _ _ hp
  have S7 := kd hb7
  clear hp hb7 PG
  go_upto_region 6 with (fail)
  replace BB := kd (bthen BB.out S7.out)
  replace RU := kd (RU.out.below S7.out)
  replace RV := kd (RV.out.below S7.out)
  replace R5 := kd (R5.out.below S7.out)
  replace R7 := kd (R7.out.below S7.out)
  replace UX := kd (UX.out.step S7.out)
  replace UY := kd (UY.out.step S7.out)
  clear S7
  go_wp2_with (with_reducible refine wpList_loadR rfl 32 (.tmp 2) rfl RU.out rfl Tryz.underlying32 rfl (sizeU _ _ _ _ _ _) ?_)
  refine (QG.out _ (CV.out _ BB.out)).mono ?_
  intro e w8 hp
  obtain ⟨rfl, hb8⟩ := PB.out _ _ _ hp
  have S8 := kd hb8
  clear hp hb8 QG PB
  go_upto_region 7 with (fail)
  replace BB := kd (bthen BB.out S8.out)
  replace RU := kd (RU.out.below S8.out)
  replace RV := kd (RV.out.below S8.out)
  replace R5 := kd (R5.out.below S8.out)
  replace R7 := kd (R7.out.below S8.out)
  replace UX := kd (UX.out.step S8.out)
  replace UY := kd (UY.out.step S8.out)
  clear S8
  have SA := kd (fun w' (hb : Below w8.heap.size w8 w') => same_any x x C1 C2 D1 D2 _ _ _ _ e1 e2 f1 f2 w' (UX.out.step hb).by_ (UY.out.step hb).by_ rfl rfl rfl rfl (UX.out.step hb).r1 (UX.out.step hb).r2 (UY.out.step hb).r1 (UY.out.step hb).r2 UX.out.l1 UX.out.l2 UY.out.l1 UY.out.l2)
  simp only [sameU_iff.2 (show x = x from rfl)] at SA
  have E1 := kd (fun w' (hb : Below w8.heap.size w8 w') => EG.out w' (CV.out _ (bthen BB.out hb)))
  have E2 := kd (fun w' (hb : Below w8.heap.size w8 w') => FG.out w' (CV.out _ (bthen BB.out hb)))
  have E3 := kd (fun w' (hb : Below w8.heap.size w8 w') => AW.out w' (CV.out _ (bthen BB.out hb)))
  have ek : (k == k) = true := by simp
  have et : (tk == tk) = true := by simp
  have eb : (b == b) = true := by simp
  have es : ((strOfNums tx).toList == (strOfNums tx).toList) = true := by simp
  clear EG FG AW UX UY
  refine region_bw (by kernel_rfl) (by kernel_rfl) ?_
  go_big_quiet_want
  refine quiet_load 32 (.tmp 5) rfl _ rfl _ 32 _ R5.out Tryz.underlying32 rfl (sizeU _ _ _ _ _ _) ?_
  simp only [Act.put, List.setIfInBounds_toArray, List.set_cons_zero, List.set_cons_succ]
  go_big_quiet_on
  go_big_quiet_want
  refine quiet_load 32 (.tmp 7) rfl _ rfl _ 32 _ R7.out Tryz.underlying32 rfl (sizeU _ _ _ _ _ _) ?_
  simp only [Act.put, List.setIfInBounds_toArray, List.set_cons_zero, List.set_cons_succ]
  go_big_quiet_on
  go_big_quiet_step (exact calls_bw (SA.out _ (BW.h _)))
  iterate 16 go_big_quiet_step (fail)
  go_big_quiet_want
  refine quiet_load 32 (.tmp 2) rfl _ rfl _ 32 _ RU.out Tryz.underlying32 rfl (sizeU _ _ _ _ _ _) ?_
  simp only [Act.put, List.setIfInBounds_toArray, List.set_cons_zero, List.set_cons_succ]
  go_big_quiet_on
  go_big_quiet_want
  refine quiet_load 32 (.tmp 3) rfl _ rfl _ 32 _ RV.out Tryz.underlying32 rfl (sizeU _ _ _ _ _ _) ?_
  simp only [Act.put, List.setIfInBounds_toArray, List.set_cons_zero, List.set_cons_succ]
  go_big_quiet_on
  go_big_quiet_step (exact calls_bw (E1.out _ (BW.h _)))
  go_big_quiet_want
  refine quiet_load 32 (.tmp 2) rfl _ rfl _ 32 _ RU.out Tryz.underlying32 rfl (sizeU _ _ _ _ _ _) ?_
  simp only [Act.put, List.setIfInBounds_toArray, List.set_cons_zero, List.set_cons_succ]
  go_big_quiet_on
  go_big_quiet_want
  refine quiet_load 32 (.tmp 3) rfl _ rfl _ 32 _ RV.out Tryz.underlying32 rfl (sizeU _ _ _ _ _ _) ?_
  simp only [Act.put, List.setIfInBounds_toArray, List.set_cons_zero, List.set_cons_succ]
  go_big_quiet_on
  go_big_quiet_step (exact calls_bw (E2.out _ (BW.h _)))
  iterate 3 go_big_quiet_step (fail)
  go_big_quiet_step (exact calls_bw (E3.out _ (BW.h _)))
  iterate 2 go_big_quiet_step (fail)
  refine wpQuiet_nil ?_
  rintro _ ⟨y, rfl⟩
  have BY := kd (bthen BB.out y.h)
  go_wp2_with fail
  go_ret
  exact ⟨rfl, hg ▸ BY.out⟩
end Go.Proofs.YthfonniieaiocaaGreatDoor
