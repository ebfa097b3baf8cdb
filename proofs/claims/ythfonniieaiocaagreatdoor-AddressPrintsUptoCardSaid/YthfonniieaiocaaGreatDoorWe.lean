/- Contracts: slices.Equal of parameters, address.Equal. The law AddressRound. -/
import Derived.Test.YthfonniieaiocaaGreatDoorYa
set_option linter.unusedVariables false
set_option linter.unusedSimpArgs false
set_option maxRecDepth 100000
namespace Go.Proofs.YthfonniieaiocaaGreatDoor
open Go.RowKit

set_option maxHeartbeats 2000000 in
theorem speq_any (A B : Option Addr) (n c m d : Nat) (l k : List Pm) (w : World) (hA : Rds w w.heap.size A (pms l)) (hB : Rds w w.heap.size B (pms k)) (hn : l.length = n) (hm : k.length = m) (hN : n ≤ 16000000) (hM : m ≤ 16000000) (hl : PmBy l) (hk : PmBy k) :
    Calls Tryz.prog 106 #[.slice A n c, .slice B m d] w fun e w' => e = .returned (.bool (samePs l k)) ∧ ∃ q, w' = w.drewN q := by
  have HA := kd hA; have HB := kd hB; have HN := kd hn; have HM := kd hm; have HL := kd hl; have HK := kd hk
  obtain ⟨R, hR⟩ : ∃ R, samePs l k = R := ⟨_, rfl⟩
  rw [hR]
  have HR := kd hR
  clear hA hB hn hm hl hk hR
  go_enter Tryz.func106, Tryz.ntmps106
  by_cases hnm : n = m
  · have d0 : decide ((n : Int) = (m : Int)) = true := by simp; omega
    have d0' : ((n : Int) == (m : Int)) = true := by simp; omega
    have d0'' : ((n : Int) != (m : Int)) = false := by simp; omega
    go_wp2_with fail
    go_loopw [13] (fun v wr => ∃ j q : Nat, j ≤ n ∧ v = .int .i64 j ∧ wr = w.drewN q ∧ Hid (R = samePs (l.drop j) (k.drop j))) (fun v _ => n - (intOf v).toNat)
    case atStart => exact ⟨0, 0, Nat.zero_le _, rfl, rfl, kd (by rw [List.drop_zero, List.drop_zero, HR.out])⟩
    case round =>
      obtain ⟨j, q, hj, rfl, rfl, RJ⟩ := hrel
      by_cases hlt : j < n
      · obtain ⟨p, hp⟩ : ∃ p, l[j]? = some p := ⟨_, List.getElem?_eq_getElem (by rw [HN.out]; exact hlt)⟩
        obtain ⟨p', hp'⟩ : ∃ p, k[j]? = some p := ⟨_, List.getElem?_eq_getElem (by rw [HM.out]; omega)⟩
        obtain ⟨x1, o1, rfl, hx1, hc1⟩ := HA.out (by rw [pms_len, HN.out]; omega)
        obtain ⟨x2, o2, rfl, hx2, hc2⟩ := HB.out (by rw [pms_len, HM.out]; omega)
        have G1 := kd (show w.rangeAt x1 (o1 + j * 3) (pmC p) from Rds.range2 hc1 (j * 3) _ (pms_at hp))
        have G2 := kd (show w.rangeAt x2 (o2 + j * 3) (pmC p') from Rds.range2 hc2 (j * 3) _ (pms_at hp'))
        have RN := kd (RJ.out.trans (same_drop hp hp'))
        have ES := pmE_str (HL.out p (List.mem_of_getElem? hp)) (HK.out p' (List.mem_of_getElem? hp'))
        have hd : decide (j < n) = true := by simp [hlt]
        have hd2 : decide ((j : Int) < (n : Int)) = true := by simp; omega
        have hjm : j < m := by omega
        clear hc1 hc2 hp hp' hx1 hx2 RJ
        obtain ⟨pn, pv, ph⟩ := p
        obtain ⟨qn, qv, qh⟩ := p'
        dsimp only at ES
        have g1 : w.cell? ⟨x1, o1 + j * 3, none⟩ = some (.string (strOfNums pn)) := G1.out 0 _ rfl
        have g2 : w.cell? ⟨x1, o1 + j * 3 + 1, none⟩ = some (.string (strOfNums pv)) := G1.out 1 _ rfl
        have g3 : w.cell? ⟨x1, o1 + j * 3 + 2, none⟩ = some (.bool ph) := G1.out 2 _ rfl
        have g4 : w.cell? ⟨x2, o2 + j * 3, none⟩ = some (.string (strOfNums qn)) := G2.out 0 _ rfl
        have g5 : w.cell? ⟨x2, o2 + j * 3 + 1, none⟩ = some (.string (strOfNums qv)) := G2.out 1 _ rfl
        have g6 : w.cell? ⟨x2, o2 + j * 3 + 2, none⟩ = some (.bool qh) := G2.out 2 _ rfl
        generalize pmE ⟨pn, pv, ph⟩ ⟨qn, qv, qh⟩ = E at *
        generalize strOfNums pn = a at *
        generalize strOfNums pv = b at *
        generalize strOfNums qn = a' at *
        generalize strOfNums qv = b' at *
        clear G1 G2
        have NQ := kd (fun w => (neq_pm a b a' b' ph qh w).trans (by rw [ES]))
        clear ES
        go_wp2_with fail
        have NQ := NQ.out
        cases E with
        | false =>
          have F := kd (show R = false from RN.out)
          clear RN
          go_quiet (fail)
          go_wp2_with fail
          go_ret
          exact ⟨by rw [F.out]; rfl, _, World.drewN_drewN _ _ _⟩
        | true =>
          have F := kd (show R = samePs (l.drop (j + 1)) (k.drop (j + 1)) from RN.out)
          clear RN
          go_quiet (fail)
          go_wp2_with fail
          go_roundw
          case rel => exact ⟨j + 1, _, by omega, by go_num, rfl, F⟩
          case measure => simp [intOf]; omega
      · obtain rfl : j = n := by omega
        have F := kd (show R = true by
          have h1 : l.drop j = [] := List.drop_eq_nil_of_le (by rw [HN.out]; exact Nat.le_refl _)
          have h2 : k.drop j = [] := List.drop_eq_nil_of_le (by rw [HM.out]; omega)
          rw [RJ.out, h1, h2]; rfl)
        clear RJ
        go_wp2_with fail
        go_ret
        exact ⟨by rw [F.out]; rfl, _, rfl⟩
  · have F := kd (show R = false from HR.out.symm.trans (same_len (by rw [HN.out, HM.out]; exact hnm)))
    have d0'' : ((n : Int) != (m : Int)) = true := by simp; omega
    go_wp2_with fail
    go_ret
    exact ⟨by rw [F.out]; rfl, 0, rfl⟩
theorem uarg_norm {w w' : World} {u n : Uri} {A1 A2 B1 B2 : Option Addr} (H : UArg w u A1 A2) (h : normL u = some n) (r1 : Rds w' w'.heap.size B1 (pms n.ps)) (r2 : Rds w' w'.heap.size B2 (pms n.hs)) : UArg w' n B1 B2 := by
  have hn := norm_ok H.by_ h
  obtain ⟨s1, s2, s3, s4⟩ := norm_sz H.by_ h H.n2 H.n3 H.s1 H.s2
  have hb := uriN_by hn
  have h1 : n.sc.length ≤ 4000000 := by
    rcases hn.k with h | h
    · rcases h.1 with h | h <;> rw [h] <;> decide
    · rw [h.1]; decide
  exact ⟨hb, h1, s1, s2, s3, s4, r1, r2, by have := hn.ps.len; omega, by have := hn.hs.len; omega⟩
theorem norm_good {u n : Uri} (h : normL u = some n) (A1 A2 : Option Addr) (c1 c2 : Nat) (w : World) (H : UArg w u A1 A2) (hG : GM w) (hP : PT w) :
    Calls Tryz.prog 33 #[uS u A1 A2 c1 c2] w fun e w' => ∃ B1 B2 d1 d2, e = .returned (.tuple #[uS n B1 B2 d1 d2, .int .u8 0]) ∧ Below w.heap.size w w' ∧ UArg w' n B1 B2 := by
  refine (normal_any u A1 A2 c1 c2 w H hG hP).mono ?_
  intro e w' hr
  rw [h] at hr
  obtain ⟨v1, v2, rfl, h1, h2⟩ := hr
  have hb := h1.bw
  obtain ⟨B1, d1, rfl, r1⟩ := h1.rdw
  obtain ⟨B2, d2, rfl, r2⟩ := h2.rdw
  exact ⟨B1, B2, d1, d2, rfl, hb, uarg_norm H h r1 r2⟩
theorem norm_bad {u : Uri} (h : normL u = none) (A1 A2 : Option Addr) (c1 c2 : Nat) (w : World) (H : UArg w u A1 A2) (hG : GM w) (hP : PT w) :
    Calls Tryz.prog 33 #[uS u A1 A2 c1 c2] w fun e w' => e = .returned (.tuple #[.agg #[.string ⟨#[]⟩, .string ⟨#[]⟩, .string ⟨#[]⟩, .int .i64 0, .slice none 0 0, .slice none 0 0], .int .u8 2]) ∧ Below w.heap.size w w' := by
  refine (normal_any u A1 A2 c1 c2 w H hG hP).mono ?_
  intro e w' hr
  rw [h] at hr
  exact ⟨hr.1, hr.2⟩
set_option maxHeartbeats 2000000 in
theorem equal_any (u v : Uri) (A1 A2 B1 B2 : Option Addr) (c1 c2 d1 d2 : Nat) (w : World) (H : UArg w u A1 A2) (H2 : UArg w v B1 B2) (hG : GM w) (hP : PT w) :
    Calls Tryz.prog 36 #[uS u A1 A2 c1 c2, uS v B1 B2 d1 d2] w fun e w' => e = .returned (.bool (eqU u v)) ∧ Below w.heap.size w w' := by
  have NG := kd (fun n w' (h : normL u = some n) (hb : Below w.heap.size w w') => norm_good h A1 A2 c1 c2 w' (H.step hb) (hG.below hb) (hP.below hb))
  have NB := kd (fun w' (h : normL u = none) (hb : Below w.heap.size w w') => norm_bad h A1 A2 c1 c2 w' (H.step hb) (hG.below hb) (hP.below hb))
  have MG := kd (fun n w' (h : normL v = some n) (hb : Below w.heap.size w w') => norm_good h B1 B2 d1 d2 w' (H2.step hb) (hG.below hb) (hP.below hb))
  have MB := kd (fun w' (h : normL v = none) (hb : Below w.heap.size w w') => norm_bad h B1 B2 d1 d2 w' (H2.step hb) (hG.below hb) (hP.below hb))
  have HA := kd (fun (h : normL u = none) => show eqU u v = false by unfold eqU; rw [h])
  have HB := kd (fun (h : normL v = none) => show eqU u v = false by unfold eqU; rw [h]; cases normL u <;> rfl)
  have HE := kd (fun (x y : Uri) (h : normL u = some x) (h2 : normL v = some y) => show eqU u v = sameU x y by unfold eqU; rw [h, h2])
  obtain ⟨R, hR⟩ : ∃ R, eqU u v = R := ⟨_, rfl⟩
  rw [hR] at HA HB HE ⊢
  obtain ⟨NU, hNU⟩ : ∃ N, normL u = N := ⟨_, rfl⟩
  obtain ⟨NV, hNV⟩ : ∃ N, normL v = N := ⟨_, rfl⟩
  rw [hNU] at NG NB HA HE
  rw [hNV] at MG MB HB HE
  obtain ⟨R1, R2, W2⟩ := two_rows w 32 32 [.string (strOfNums u.sc), .string (strOfNums u.us), .string (strOfNums u.ho), .int .i64 u.po, .slice A1 u.ps.length c1, .slice A2 u.hs.length c2] [.string (strOfNums v.sc), .string (strOfNums v.us), .string (strOfNums v.ho), .int .i64 v.po, .slice B1 v.ps.length d1, .slice B2 v.hs.length d2]
  have R1 := kd R1
  have R2 := kd R2
  have B2_ := kd W2
  clear W2 H H2 hG hP hNU hNV hR
  unfold uS
  go_enter Tryz.func36, Tryz.ntmps36
  go_upto_region 1 with (fail)
  generalize (w.alloc (.cells #[.string (strOfNums u.sc), .string (strOfNums u.us), .string (strOfNums u.ho), .int .i64 u.po, .slice A1 u.ps.length c1, .slice A2 u.hs.length c2] 32)).alloc (.cells #[.string (strOfNums v.sc), .string (strOfNums v.us), .string (strOfNums v.ho), .int .i64 v.po, .slice B1 v.ps.length d1, .slice B2 v.hs.length d2] 32) = w2 at *
  generalize w.heap.size + 1 = g2 at *
  generalize hg : w.heap.size = g1 at *
  replace B2_ := kd (show Below w.heap.size w w2 by rw [hg]; exact B2_.out)
  have CV := kd (fun w' (h : Below w.heap.size w w') => show Below g1 w w' from hg ▸ h)
  have k0 : w2.cell? ⟨g1, 0, none⟩ = some (.string (strOfNums u.sc)) := R1.out.cell 0
  have k1 : w2.cell? ⟨g1, 1, none⟩ = some (.string (strOfNums u.us)) := R1.out.cell 1
  have k2 : w2.cell? ⟨g1, 2, none⟩ = some (.string (strOfNums u.ho)) := R1.out.cell 2
  have k3 : w2.cell? ⟨g1, 3, none⟩ = some (.int .i64 u.po) := R1.out.cell 3
  have k4 : w2.cell? ⟨g1, 4, none⟩ = some (.slice A1 u.ps.length c1) := R1.out.cell 4
  have k5 : w2.cell? ⟨g1, 5, none⟩ = some (.slice A2 u.hs.length c2) := R1.out.cell 5
  cases NU with
  | none =>
    have F := kd (HA.out rfl)
    go_wp2_with fail
    refine (NB.out _ trivial (CV.out _ B2_.out)).mono ?_
    rintro e w3 ⟨rfl, hb3⟩
    have S3 := kd hb3
    have RZ := kd (Row.new w3 32 [.string ⟨#[]⟩, .string ⟨#[]⟩, .string ⟨#[]⟩, .int .i64 0, .slice none 0 0, .slice none 0 0])
    go_wp2_with (with_reducible refine wpList_storeG rfl 32 (.tmp 5) (.tmp 11) rfl RZ.out [.string ⟨#[]⟩, .string ⟨#[]⟩, .string ⟨#[]⟩, .int .i64 0, .slice none 0 0, .slice none 0 0] rfl rfl (lenU _ _ _ _ _ _ _ _ _ _ _ _) (sizeU _ _ _ _ _ _) (u_one _ _ _ _) ?_)
    intro w4 R5 G_
    have S4 := kd (below_store (w := w3) (T := 32) (zs := [.string ⟨#[]⟩, .string ⟨#[]⟩, .string ⟨#[]⟩, .int .i64 0, .slice none 0 0, .slice none 0 0]) (Below.refl _ _) G_.out)
    clear RZ G_
    have B4 := kd (bthen B2_.out (bthen S3.out S4.out))
    go_wp2_with fail
    go_ret
    exact ⟨by rw [F.out]; rfl, B4.out⟩
  | some x =>
  clear NB HA
  go_wp2_with fail
  refine (NG.out _ _ rfl (CV.out _ B2_.out)).mono ?_
  rintro e w3 ⟨C1, C2, e1, e2, rfl, hb3, ua3⟩
  have S3 := kd hb3
  have UX := kd ua3
  clear hb3 ua3 k0 k1 k2 k3 k4 k5 R1 NG
  unfold uS
  have RZ := kd (Row.new w3 32 [.string ⟨#[]⟩, .string ⟨#[]⟩, .string ⟨#[]⟩, .int .i64 0, .slice none 0 0, .slice none 0 0])
  go_wp2_with (with_reducible refine wpList_storeG rfl 32 (.tmp 5) (.tmp 11) rfl RZ.out [.string (strOfNums x.sc), .string (strOfNums x.us), .string (strOfNums x.ho), .int .i64 x.po, .slice C1 x.ps.length e1, .slice C2 x.hs.length e2] rfl rfl (lenU _ _ _ _ _ _ _ _ _ _ _ _) (sizeU _ _ _ _ _ _) (u_one _ _ _ _) ?_)
  intro w4 R5 G_
  have S4 := kd (below_store (w := w3) (T := 32) (zs := [.string ⟨#[]⟩, .string ⟨#[]⟩, .string ⟨#[]⟩, .int .i64 0, .slice none 0 0, .slice none 0 0]) (Below.refl _ _) G_.out)
  clear RZ G_
  have S5 := kd (bthen S3.out S4.out)
  have B4 := kd (bthen B2_.out S5.out)
  replace R2 := kd (R2.out.below S5.out)
  replace UX := kd (UX.out.step S4.out)
  clear S3 S4 S5 B2_
  generalize w3.heap.size = g5 at *
  have k0 : w4.cell? ⟨g2, 0, none⟩ = some (.string (strOfNums v.sc)) := R2.out.cell 0
  have k1 : w4.cell? ⟨g2, 1, none⟩ = some (.string (strOfNums v.us)) := R2.out.cell 1
  have k2 : w4.cell? ⟨g2, 2, none⟩ = some (.string (strOfNums v.ho)) := R2.out.cell 2
  have k3 : w4.cell? ⟨g2, 3, none⟩ = some (.int .i64 v.po) := R2.out.cell 3
  have k4 : w4.cell? ⟨g2, 4, none⟩ = some (.slice B1 v.ps.length d1) := R2.out.cell 4
  have k5 : w4.cell? ⟨g2, 5, none⟩ = some (.slice B2 v.hs.length d2) := R2.out.cell 5
  cases NV with
  | none =>
    have F := kd (HB.out rfl)
    go_wp2_with fail
    refine (MB.out _ trivial (CV.out _ B4.out)).mono ?_
    rintro e w5 ⟨rfl, hb5⟩
    have S5 := kd hb5
    have RZ := kd (Row.new w5 32 [.string ⟨#[]⟩, .string ⟨#[]⟩, .string ⟨#[]⟩, .int .i64 0, .slice none 0 0, .slice none 0 0])
    go_wp2_with (with_reducible refine wpList_storeG rfl 32 (.tmp 7) (.tmp 18) rfl RZ.out [.string ⟨#[]⟩, .string ⟨#[]⟩, .string ⟨#[]⟩, .int .i64 0, .slice none 0 0, .slice none 0 0] rfl rfl (lenU _ _ _ _ _ _ _ _ _ _ _ _) (sizeU _ _ _ _ _ _) (u_one _ _ _ _) ?_)
    intro w6 R7 G_
    have S6 := kd (below_store (w := w5) (T := 32) (zs := [.string ⟨#[]⟩, .string ⟨#[]⟩, .string ⟨#[]⟩, .int .i64 0, .slice none 0 0, .slice none 0 0]) (Below.refl _ _) G_.out)
    clear RZ G_
    have B6 := kd (bthen B4.out (bthen S5.out S6.out))
    go_wp2_with fail
    go_ret
    exact ⟨by rw [F.out]; rfl, B6.out⟩
  | some y =>
  have F := kd (HE.out x y rfl rfl)
  clear MB HB HE
  go_wp2_with fail
  refine (MG.out _ _ rfl (CV.out _ B4.out)).mono ?_
  rintro e w5 ⟨D1, D2, f1, f2, rfl, hb5, ua5⟩
  have S5 := kd hb5
  have UY := kd ua5
  clear hb5 ua5 k0 k1 k2 k3 k4 k5 R2 MG
  unfold uS
  have RZ := kd (Row.new w5 32 [.string ⟨#[]⟩, .string ⟨#[]⟩, .string ⟨#[]⟩, .int .i64 0, .slice none 0 0, .slice none 0 0])
  go_wp2_with (with_reducible refine wpList_storeG rfl 32 (.tmp 7) (.tmp 18) rfl RZ.out [.string (strOfNums y.sc), .string (strOfNums y.us), .string (strOfNums y.ho), .int .i64 y.po, .slice D1 y.ps.length f1, .slice D2 y.hs.length f2] rfl rfl (lenU _ _ _ _ _ _ _ _ _ _ _ _) (sizeU _ _ _ _ _ _) (u_one _ _ _ _) ?_)
  intro w6 R7 G_
  have S6 := kd (below_store (w := w5) (T := 32) (zs := [.string ⟨#[]⟩, .string ⟨#[]⟩, .string ⟨#[]⟩, .int .i64 0, .slice none 0 0, .slice none 0 0]) (Below.refl _ _) G_.out)
  clear RZ G_
  have S7 := kd (bthen S5.out S6.out)
  have B6 := kd (bthen B4.out S7.out)
  replace R5 := kd (R5.out.below S7.out)
  replace UX := kd (UX.out.step S7.out)
  replace UY := kd (UY.out.step S6.out)
  clear S5 S6 S7 B4
  generalize w5.heap.size = g7 at *
  have E1 := toList_beq UX.out.by_.sc UY.out.by_.sc
  have E2 := toList_beq UX.out.by_.us UY.out.by_.us
  have E3 := toList_beq UX.out.by_.ho UY.out.by_.ho
  have P1 := kd (fun w' (hb : Below w6.heap.size w6 w') => speq_any C1 D1 _ e1 _ f1 x.ps y.ps w' ((UX.out.r1.below hb).up hb.size) ((UY.out.r1.below hb).up hb.size) rfl rfl UX.out.l1 UY.out.l1 UX.out.by_.ps UY.out.by_.ps)
  have P2 := kd (fun w' (hb : Below w6.heap.size w6 w') => speq_any C2 D2 _ e2 _ f2 x.hs y.hs w' ((UX.out.r2.below hb).up hb.size) ((UY.out.r2.below hb).up hb.size) rfl rfl UX.out.l2 UY.out.l2 UX.out.by_.hs UY.out.by_.hs)
  rw [sameU_eq] at F
  clear UX UY
  obtain ⟨sc, us, ho, po, ps, hs⟩ := x
  obtain ⟨sc', us', ho', po', ps', hs'⟩ := y
  dsimp only at E1 E2 E3 P1 P2 F R5 R7
  generalize (sc == sc') = b1 at *
  generalize (us == us') = b2 at *
  generalize (ho == ho') = b3 at *
  generalize samePs ps ps' = b5 at *
  generalize samePs hs hs' = b6 at *
  generalize ps.length = n1 at *
  generalize hs.length = n2 at *
  generalize ps'.length = m1 at *
  generalize hs'.length = m2 at *
  generalize strOfNums sc = x1 at *
  generalize strOfNums us = x2 at *
  generalize strOfNums ho = x3 at *
  generalize strOfNums sc' = y1 at *
  generalize strOfNums us' = y2 at *
  generalize strOfNums ho' = y3 at *
  have k0 : w6.cell? ⟨g5, 0, none⟩ = some (.string x1) := R5.out.cell 0
  have k1 : w6.cell? ⟨g5, 1, none⟩ = some (.string x2) := R5.out.cell 1
  have k2 : w6.cell? ⟨g5, 2, none⟩ = some (.string x3) := R5.out.cell 2
  have k3 : w6.cell? ⟨g5, 3, none⟩ = some (.int .i64 po) := R5.out.cell 3
  have k4 : w6.cell? ⟨g5, 4, none⟩ = some (.slice C1 n1 e1) := R5.out.cell 4
  have k5 : w6.cell? ⟨g5, 5, none⟩ = some (.slice C2 n2 e2) := R5.out.cell 5
  have q0 : w6.cell? ⟨g7, 0, none⟩ = some (.string y1) := R7.out.cell 0
  have q1 : w6.cell? ⟨g7, 1, none⟩ = some (.string y2) := R7.out.cell 1
  have q2 : w6.cell? ⟨g7, 2, none⟩ = some (.string y3) := R7.out.cell 2
  have q3 : w6.cell? ⟨g7, 3, none⟩ = some (.int .i64 po') := R7.out.cell 3
  have q4 : w6.cell? ⟨g7, 4, none⟩ = some (.slice D1 m1 f1) := R7.out.cell 4
  have q5 : w6.cell? ⟨g7, 5, none⟩ = some (.slice D2 m2 f2) := R7.out.cell 5
  clear R5 R7
  cases b1 with
  | false =>
    go_wp2_with fail
    go_ret
    exact ⟨by rw [F.out]; rfl, B6.out⟩
  | true =>
  cases b2 with
  | false =>
    go_wp2_with fail
    go_ret
    exact ⟨by rw [F.out]; rfl, B6.out⟩
  | true =>
  cases b3 with
  | false =>
    go_wp2_with fail
    go_ret
    exact ⟨by rw [F.out]; rfl, B6.out⟩
  | true =>
  by_cases b4 : po = po'
  · have d4 : decide (po = po') = true := by simp [b4]
    have d5 : (po == po') = true := by simp [b4]
    clear b4
    go_wp2_with fail
    refine (P1.out _ (Below.refl _ _)).mono ?_
    rintro _ _ ⟨rfl, q, rfl⟩
    have HB2 := kd (show Below w.heap.size w (w6.drewN q) from B6.out.trans ⟨rfl, rfl, rfl, Nat.le_refl _, fun _ _ => rfl⟩)
    cases b5 with
    | false =>
      go_wp2_with fail
      go_ret
      exact ⟨by rw [F.out, d4]; rfl, HB2.out⟩
    | true =>
    go_wp2_with fail
    refine (P2.out (w6.drewN q) ⟨rfl, rfl, rfl, Nat.le_refl _, fun _ _ => rfl⟩).mono ?_
    rintro _ _ ⟨rfl, q2, rfl⟩
    have HB3 := kd (show Below w.heap.size w (w6.drewN (q + q2)) from HB2.out.trans ⟨rfl, rfl, rfl, Nat.le_refl _, fun _ _ => rfl⟩)
    go_wp2_with fail
    go_ret
    cases b6 with
    | false => exact ⟨by rw [F.out, d4]; rfl, HB3.out⟩
    | true => exact ⟨by rw [F.out, d4]; rfl, HB3.out⟩
  · have d4 : decide (po = po') = false := by simp [b4]
    have d5 : (po == po') = false := by simp [b4]
    clear b4
    go_wp2_with fail
    go_ret
    exact ⟨by rw [F.out, d4]; rfl, B6.out⟩
end Go.Proofs.YthfonniieaiocaaGreatDoor
namespace Go.Proofs.YthfonniieaiocaaGreatDoor
open Go.RowKit

end Go.Proofs.YthfonniieaiocaaGreatDoor
