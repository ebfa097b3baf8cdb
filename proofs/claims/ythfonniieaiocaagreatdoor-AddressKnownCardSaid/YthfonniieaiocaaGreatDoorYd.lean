/- Contracts: slices.Equal of parameters, address.Equal. The law AddressRound. What the rows on addresses share: an address with its parameters, opened. -/
import Derived.Test.YthfonniieaiocaaGreatDoorYa
import Derived.Test.YthfonniieaiocaaGreatDoorUh
set_option linter.unusedVariables false
set_option linter.unusedSimpArgs false
namespace Go.Proofs.YthfonniieaiocaaGreatDoor
open Go.RowKit

set_option maxRecDepth 100000 in
set_option maxHeartbeats 2000000 in
theorem speq_any (A B : Option Addr) (n c m d : Nat) (l k : List Pm) (w : World) (hA : Rds w w.heap.size A (pms l)) (hB : Rds w w.heap.size B (pms k)) (hn : l.length = n) (hm : k.length = m) (hN : n ≤ 16000000) (hM : m ≤ 16000000) (hl : PmBy l) (hk : PmBy k) :
    Calls Tryz.prog 106 #[.slice A n c, .slice B m d] w fun e w' => e = .returned (.bool (samePs l k)) ∧ ∃ q, w' = w.drewN q := by
  have HA := Lib.hid hA; have HB := Lib.hid hB; have HN := Lib.hid hn; have HM := Lib.hid hm; have HL := Lib.hid hl; have HK := Lib.hid hk
  obtain ⟨R, hR⟩ : ∃ R, samePs l k = R := ⟨_, rfl⟩
  rw [hR]
  have HR := Lib.hid hR
  clear hA hB hn hm hl hk hR
  go_enter Tryz.func106, Tryz.ntmps106
  by_cases hnm : n = m
  · have d0 : decide ((n : Int) = (m : Int)) = true := by simp; omega
    have d0' : ((n : Int) == (m : Int)) = true := by simp; omega
    have d0'' : ((n : Int) != (m : Int)) = false := by simp; omega
    go_wp2_with fail
    go_loopw [13] (fun v wr => ∃ j q : Nat, j ≤ n ∧ v = .int .i64 j ∧ wr = w.drewN q ∧ Hid (R = samePs (l.drop j) (k.drop j))) (fun v _ => n - (intOf v).toNat)
    case atStart => exact ⟨0, 0, Nat.zero_le _, rfl, rfl, Lib.hid (by rw [List.drop_zero, List.drop_zero, HR.out])⟩
    case round =>
      obtain ⟨j, q, hj, rfl, rfl, RJ⟩ := hrel
      by_cases hlt : j < n
      · obtain ⟨p, hp⟩ : ∃ p, l[j]? = some p := ⟨_, List.getElem?_eq_getElem (by rw [HN.out]; exact hlt)⟩
        obtain ⟨p', hp'⟩ : ∃ p, k[j]? = some p := ⟨_, List.getElem?_eq_getElem (by rw [HM.out]; omega)⟩
        obtain ⟨x1, o1, rfl, hx1, hc1⟩ := HA.out (by rw [pms_len, HN.out]; omega)
        obtain ⟨x2, o2, rfl, hx2, hc2⟩ := HB.out (by rw [pms_len, HM.out]; omega)
        have G1 := Lib.hid (show w.rangeAt x1 (o1 + j * 3) (pmC p) from Rds.range2 hc1 (j * 3) _ (pms_at hp))
        have G2 := Lib.hid (show w.rangeAt x2 (o2 + j * 3) (pmC p') from Rds.range2 hc2 (j * 3) _ (pms_at hp'))
        have RN := Lib.hid (RJ.out.trans (same_drop hp hp'))
        have ES := pmE_str (HL.out p (List.mem_of_getElem? hp)) (HK.out p' (List.mem_of_getElem? hp'))
        have hd : decide (j < n) = true := by simp [hlt]
        have hd2 : decide ((j : Int) < (n : Int)) = true := by simp; omega
        have hjm : j < m := by omega
        clear hc1 hc2 hp hp' hx1 hx2 RJ
        obtain ⟨pn, pv, ph⟩ := p
        obtain ⟨qn, qv, qh⟩ := p'
        dsimp only at ES
        have g1 : w.cell? ⟨x1, o1 + j * 3, none⟩ = some (.string (strOfNums pn)) := G1.out 0 _ rfl
        have g2 : w.cell? ⟨x1, o1 + j * 3 + 1, none⟩ = some (.string (strOfNums pv)) := G1.out 1 _ rfl
        have g3 : w.cell? ⟨x1, o1 + j * 3 + 2, none⟩ = some (.bool ph) := G1.out 2 _ rfl
        have g4 : w.cell? ⟨x2, o2 + j * 3, none⟩ = some (.string (strOfNums qn)) := G2.out 0 _ rfl
        have g5 : w.cell? ⟨x2, o2 + j * 3 + 1, none⟩ = some (.string (strOfNums qv)) := G2.out 1 _ rfl
        have g6 : w.cell? ⟨x2, o2 + j * 3 + 2, none⟩ = some (.bool qh) := G2.out 2 _ rfl
        generalize pmE ⟨pn, pv, ph⟩ ⟨qn, qv, qh⟩ = E at *
        generalize strOfNums pn = a at *
        generalize strOfNums pv = b at *
        generalize strOfNums qn = a' at *
        generalize strOfNums qv = b' at *
        clear G1 G2
        have NQ := Lib.hid (fun w => (neq_pm a b a' b' ph qh w).trans (by rw [ES]))
        clear ES
        go_wp2_with fail
        have NQ := NQ.out
        cases E with
        | false =>
          have F := Lib.hid (show R = false from RN.out)
          clear RN
          go_quiet (fail)
          go_wp2_with fail
          go_ret
          exact ⟨by rw [F.out]; rfl, _, World.drewN_drewN _ _ _⟩
        | true =>
          have F := Lib.hid (show R = samePs (l.drop (j + 1)) (k.drop (j + 1)) from RN.out)
          clear RN
          go_quiet (fail)
          go_wp2_with fail
          go_roundw
          case rel => exact ⟨j + 1, _, by omega, by go_num, rfl, F⟩
          case measure => simp [intOf]; omega
      · obtain rfl : j = n := by omega
        have F := Lib.hid (show R = true by
          have h1 : l.drop j = [] := List.drop_eq_nil_of_le (by rw [HN.out]; exact Nat.le_refl _)
          have h2 : k.drop j = [] := List.drop_eq_nil_of_le (by rw [HM.out]; omega)
          rw [RJ.out, h1, h2]; rfl)
        clear RJ
        go_wp2_with fail
        go_ret
        exact ⟨by rw [F.out]; rfl, _, rfl⟩
  · have F := Lib.hid (show R = false from HR.out.symm.trans (same_len (by rw [HN.out, HM.out]; exact hnm)))
    have d0'' : ((n : Int) != (m : Int)) = true := by simp; omega
    go_wp2_with fail
    go_ret
    exact ⟨by rw [F.out]; rfl, 0, rfl⟩
theorem uarg_norm {w w' : World} {u n : Uri} {A1 A2 B1 B2 : Option Addr} (H : UArg w u A1 A2) (h : normL u = some n) (r1 : Rds w' w'.heap.size B1 (pms n.ps)) (r2 : Rds w' w'.heap.size B2 (pms n.hs)) : UArg w' n B1 B2 := by
  have hn := norm_ok H.by_ h
  obtain ⟨s1, s2, s3, s4⟩ := norm_sz H.by_ h H.n2 H.n3 H.s1 H.s2
  have hb := uriN_by hn
  have h1 : n.sc.length ≤ 4000000 := by
    rcases hn.k with h | h
    · rcases h.1 with h | h <;> rw [h] <;> decide
    · rw [h.1]; decide
  exact ⟨hb, h1, s1, s2, s3, s4, r1, r2, by have := hn.ps.len; omega, by have := hn.hs.len; omega⟩
theorem norm_good {u n : Uri} (h : normL u = some n) (A1 A2 : Option Addr) (c1 c2 : Nat) (w : World) (H : UArg w u A1 A2) (hG : GM w) (hP : PT w) :
    Calls Tryz.prog 33 #[uS u A1 A2 c1 c2] w fun e w' => ∃ B1 B2 d1 d2, e = .returned (.tuple #[uS n B1 B2 d1 d2, .int .u8 0]) ∧ Below w.heap.size w w' ∧ UArg w' n B1 B2 := by
  refine (normal_any u A1 A2 c1 c2 w H hG hP).mono ?_
  intro e w' hr
  rw [h] at hr
  obtain ⟨v1, v2, rfl, h1, h2⟩ := hr
  have hb := h1.bw
  obtain ⟨B1, d1, rfl, r1⟩ := h1.rdw
  obtain ⟨B2, d2, rfl, r2⟩ := h2.rdw
  exact ⟨B1, B2, d1, d2, rfl, hb, uarg_norm H h r1 r2⟩
theorem norm_bad {u : Uri} (h : normL u = none) (A1 A2 : Option Addr) (c1 c2 : Nat) (w : World) (H : UArg w u A1 A2) (hG : GM w) (hP : PT w) :
    Calls Tryz.prog 33 #[uS u A1 A2 c1 c2] w fun e w' => e = .returned (.tuple #[.agg #[.string ⟨#[]⟩, .string ⟨#[]⟩, .string ⟨#[]⟩, .int .i64 0, .slice none 0 0, .slice none 0 0], .int .u8 2]) ∧ Below w.heap.size w w' := by
  refine (normal_any u A1 A2 c1 c2 w H hG hP).mono ?_
  intro e w' hr
  rw [h] at hr
  exact ⟨hr.1, hr.2⟩
set_option maxRecDepth 100000 in
set_option maxHeartbeats 2000000 in
theorem equal_any (u v : Uri) (A1 A2 B1 B2 : Option Addr) (c1 c2 d1 d2 : Nat) (w : World) (H : UArg w u A1 A2) (H2 : UArg w v B1 B2) (hG : GM w) (hP : PT w) :
    Calls Tryz.prog 36 #[uS u A1 A2 c1 c2, uS v B1 B2 d1 d2] w fun e w' => e = .returned (.bool (eqU u v)) ∧ Below w.heap.size w w' := by
  have NG := Lib.hid (fun n w' (h : normL u = some n) (hb : Below w.heap.size w w') => norm_good h A1 A2 c1 c2 w' (H.step hb) (hG.below hb) (hP.below hb))
  have NB := Lib.hid (fun w' (h : normL u = none) (hb : Below w.heap.size w w') => norm_bad h A1 A2 c1 c2 w' (H.step hb) (hG.below hb) (hP.below hb))
  have MG := Lib.hid (fun n w' (h : normL v = some n) (hb : Below w.heap.size w w') => norm_good h B1 B2 d1 d2 w' (H2.step hb) (hG.below hb) (hP.below hb))
  have MB := Lib.hid (fun w' (h : normL v = none) (hb : Below w.heap.size w w') => norm_bad h B1 B2 d1 d2 w' (H2.step hb) (hG.below hb) (hP.below hb))
  have HA := Lib.hid (fun (h : normL u = none) => show eqU u v = false by unfold eqU; rw [h])
  have HB := Lib.hid (fun (h : normL v = none) => show eqU u v = false by unfold eqU; rw [h]; cases normL u <;> rfl)
  have HE := Lib.hid (fun (x y : Uri) (h : normL u = some x) (h2 : normL v = some y) => show eqU u v = sameU x y by unfold eqU; rw [h, h2])
  obtain ⟨R, hR⟩ : ∃ R, eqU u v = R := ⟨_, rfl⟩
  rw [hR] at HA HB HE ⊢
  obtain ⟨NU, hNU⟩ : ∃ N, normL u = N := ⟨_, rfl⟩
  obtain ⟨NV, hNV⟩ : ∃ N, normL v = N := ⟨_, rfl⟩
  rw [hNU] at NG NB HA HE
  rw [hNV] at MG MB HB HE
  obtain ⟨R1, R2, W2⟩ := two_rows w 32 32 [.string (strOfNums u.sc), .string (strOfNums u.us), .string (strOfNums u.ho), .int .i64 u.po, .slice A1 u.ps.length c1, .slice A2 u.hs.length c2] [.string (strOfNums v.sc), .string (strOfNums v.us), .string (strOfNums v.ho), .int .i64 v.po, .slice B1 v.ps.length d1, .slice B2 v.hs.length d2]
  have R1 := Lib.hid R1
  have R2 := Lib.hid R2
  have B2_ := Lib.hid W2
  clear W2 H H2 hG hP hNU hNV hR
  unfold uS
  go_enter Tryz.func36, Tryz.ntmps36
  go_upto_region 1 with (fail)
  generalize (w.alloc (.cells #[.string (strOfNums u.sc), .string (strOfNums u.us), .string (strOfNums u.ho), .int .i64 u.po, .slice A1 u.ps.length c1, .slice A2 u.hs.length c2] 32)).alloc (.cells #[.string (strOfNums v.sc), .string (strOfNums v.us), .string (strOfNums v.ho), .int .i64 v.po, .slice B1 v.ps.length d1, .slice B2 v.hs.length d2] 32) = w2 at *
  generalize w.heap.size + 1 = g2 at *
  generalize hg : w.heap.size = g1 at *
  replace B2_ := Lib.hid (show Below w.heap.size w w2 by rw [hg]; exact B2_.out)
  have CV := Lib.hid (fun w' (h : Below w.heap.size w w') => show Below g1 w w' from hg ▸ h)
  have k0 : w2.cell? ⟨g1, 0, none⟩ = some (.string (strOfNums u.sc)) := R1.out.cell 0
  have k1 : w2.cell? ⟨g1, 1, none⟩ = some (.string (strOfNums u.us)) := R1.out.cell 1
  have k2 : w2.cell? ⟨g1, 2, none⟩ = some (.string (strOfNums u.ho)) := R1.out.cell 2
  have k3 : w2.cell? ⟨g1, 3, none⟩ = some (.int .i64 u.po) := R1.out.cell 3
  have k4 : w2.cell? ⟨g1, 4, none⟩ = some (.slice A1 u.ps.length c1) := R1.out.cell 4
  have k5 : w2.cell? ⟨g1, 5, none⟩ = some (.slice A2 u.hs.length c2) := R1.out.cell 5
  cases NU with
  | none =>
    have F := Lib.hid (HA.out rfl)
    go_wp2_with fail
    refine (NB.out _ trivial (CV.out _ B2_.out)).mono ?_
    rintro e w3 ⟨rfl, hb3⟩
    have S3 := Lib.hid hb3
    have RZ := Lib.hid (Row.new w3 32 [.string ⟨#[]⟩, .string ⟨#[]⟩, .string ⟨#[]⟩, .int .i64 0, .slice none 0 0, .slice none 0 0])
    go_wp2_with (with_reducible refine wpList_storeG rfl 32 (.tmp 5) (.tmp 11) rfl RZ.out [.string ⟨#[]⟩, .string ⟨#[]⟩, .string ⟨#[]⟩, .int .i64 0, .slice none 0 0, .slice none 0 0] rfl rfl (lenU _ _ _ _ _ _ _ _ _ _ _ _) (sizeU _ _ _ _ _ _) (u_one _ _ _ _) ?_)
    intro w4 R5 G_
    have S4 := Lib.hid (below_store (w := w3) (T := 32) (zs := [.string ⟨#[]⟩, .string ⟨#[]⟩, .string ⟨#[]⟩, .int .i64 0, .slice none 0 0, .slice none 0 0]) (Below.refl _ _) G_.out)
    clear RZ G_
    have B4 := Lib.hid (bthen B2_.out (bthen S3.out S4.out))
    go_wp2_with fail
    go_ret
    exact ⟨by rw [F.out]; rfl, B4.out⟩
  | some x =>
  clear NB HA
  go_wp2_with fail
  refine (NG.out _ _ rfl (CV.out _ B2_.out)).mono ?_
  rintro e w3 ⟨C1, C2, e1, e2, rfl, hb3, ua3⟩
  have S3 := Lib.hid hb3
  have UX := Lib.hid ua3
  clear hb3 ua3 k0 k1 k2 k3 k4 k5 R1 NG
  unfold uS
  have RZ := Lib.hid (Row.new w3 32 [.string ⟨#[]⟩, .string ⟨#[]⟩, .string ⟨#[]⟩, .int .i64 0, .slice none 0 0, .slice none 0 0])
  go_wp2_with (with_reducible refine wpList_storeG rfl 32 (.tmp 5) (.tmp 11) rfl RZ.out [.string (strOfNums x.sc), .string (strOfNums x.us), .string (strOfNums x.ho), .int .i64 x.po, .slice C1 x.ps.length e1, .slice C2 x.hs.length e2] rfl rfl (lenU _ _ _ _ _ _ _ _ _ _ _ _) (sizeU _ _ _ _ _ _) (u_one _ _ _ _) ?_)
  intro w4 R5 G_
  have S4 := Lib.hid (below_store (w := w3) (T := 32) (zs := [.string ⟨#[]⟩, .string ⟨#[]⟩, .string ⟨#[]⟩, .int .i64 0, .slice none 0 0, .slice none 0 0]) (Below.refl _ _) G_.out)
  clear RZ G_
  have S5 := Lib.hid (bthen S3.out S4.out)
  have B4 := Lib.hid (bthen B2_.out S5.out)
  replace R2 := Lib.hid (R2.out.below S5.out)
  replace UX := Lib.hid (UX.out.step S4.out)
  clear S3 S4 S5 B2_
  generalize w3.heap.size = g5 at *
  have k0 : w4.cell? ⟨g2, 0, none⟩ = some (.string (strOfNums v.sc)) := R2.out.cell 0
  have k1 : w4.cell? ⟨g2, 1, none⟩ = some (.string (strOfNums v.us)) := R2.out.cell 1
  have k2 : w4.cell? ⟨g2, 2, none⟩ = some (.string (strOfNums v.ho)) := R2.out.cell 2
  have k3 : w4.cell? ⟨g2, 3, none⟩ = some (.int .i64 v.po) := R2.out.cell 3
  have k4 : w4.cell? ⟨g2, 4, none⟩ = some (.slice B1 v.ps.length d1) := R2.out.cell 4
  have k5 : w4.cell? ⟨g2, 5, none⟩ = some (.slice B2 v.hs.length d2) := R2.out.cell 5
  cases NV with
  | none =>
    have F := Lib.hid (HB.out rfl)
    go_wp2_with fail
    refine (MB.out _ trivial (CV.out _ B4.out)).mono ?_
    rintro e w5 ⟨rfl, hb5⟩
    have S5 := Lib.hid hb5
    have RZ := Lib.hid (Row.new w5 32 [.string ⟨#[]⟩, .string ⟨#[]⟩, .string ⟨#[]⟩, .int .i64 0, .slice none 0 0, .slice none 0 0])
    go_wp2_with (with_reducible refine wpList_storeG rfl 32 (.tmp 7) (.tmp 18) rfl RZ.out [.string ⟨#[]⟩, .string ⟨#[]⟩, .string ⟨#[]⟩, .int .i64 0, .slice none 0 0, .slice none 0 0] rfl rfl (lenU _ _ _ _ _ _ _ _ _ _ _ _) (sizeU _ _ _ _ _ _) (u_one _ _ _ _) ?_)
    intro w6 R7 G_
    have S6 := Lib.hid (below_store (w := w5) (T := 32) (zs := [.string ⟨#[]⟩, .string ⟨#[]⟩, .string ⟨#[]⟩, .int .i64 0, .slice none 0 0, .slice none 0 0]) (Below.refl _ _) G_.out)
    clear RZ G_
    have B6 := Lib.hid (bthen B4.out (bthen S5.out S6.out))
    go_wp2_with fail
    go_ret
    exact ⟨by rw [F.out]; rfl, B6.out⟩
  | some y =>
  have F := Lib.hid (HE.out x y rfl rfl)
  clear MB HB HE
  go_wp2_with fail
  refine (MG.out _ _ rfl (CV.out _ B4.out)).mono ?_
  rintro e w5 ⟨D1, D2, f1, f2, rfl, hb5, ua5⟩
  have S5 := Lib.hid hb5
  have UY := Lib.hid ua5
  clear hb5 ua5 k0 k1 k2 k3 k4 k5 R2 MG
  unfold uS
  have RZ := Lib.hid (Row.new w5 32 [.string ⟨#[]⟩, .string ⟨#[]⟩, .string ⟨#[]⟩, .int .i64 0, .slice none 0 0, .slice none 0 0])
  go_wp2_with (with_reducible refine wpList_storeG rfl 32 (.tmp 7) (.tmp 18) rfl RZ.out [.string (strOfNums y.sc), .string (strOfNums y.us), .string (strOfNums y.ho), .int .i64 y.po, .slice D1 y.ps.length f1, .slice D2 y.hs.length f2] rfl rfl (lenU _ _ _ _ _ _ _ _ _ _ _ _) (sizeU _ _ _ _ _ _) (u_one _ _ _ _) ?_)
  intro w6 R7 G_
  have S6 := Lib.hid (below_store (w := w5) (T := 32) (zs := [.string ⟨#[]⟩, .string ⟨#[]⟩, .string ⟨#[]⟩, .int .i64 0, .slice none 0 0, .slice none 0 0]) (Below.refl _ _) G_.out)
  clear RZ G_
  have S7 := Lib.hid (bthen S5.out S6.out)
  have B6 := Lib.hid (bthen B4.out S7.out)
  replace R5 := Lib.hid (R5.out.below S7.out)
  replace UX := Lib.hid (UX.out.step S7.out)
  replace UY := Lib.hid (UY.out.step S6.out)
  clear S5 S6 S7 B4
  generalize w5.heap.size = g7 at *
  have E1 := toList_beq UX.out.by_.sc UY.out.by_.sc
  have E2 := toList_beq UX.out.by_.us UY.out.by_.us
  have E3 := toList_beq UX.out.by_.ho UY.out.by_.ho
  have P1 := Lib.hid (fun w' (hb : Below w6.heap.size w6 w') => speq_any C1 D1 _ e1 _ f1 x.ps y.ps w' ((UX.out.r1.below hb).up hb.size) ((UY.out.r1.below hb).up hb.size) rfl rfl UX.out.l1 UY.out.l1 UX.out.by_.ps UY.out.by_.ps)
  have P2 := Lib.hid (fun w' (hb : Below w6.heap.size w6 w') => speq_any C2 D2 _ e2 _ f2 x.hs y.hs w' ((UX.out.r2.below hb).up hb.size) ((UY.out.r2.below hb).up hb.size) rfl rfl UX.out.l2 UY.out.l2 UX.out.by_.hs UY.out.by_.hs)
  rw [sameU_eq] at F
  clear UX UY
  obtain ⟨sc, us, ho, po, ps, hs⟩ := x
  obtain ⟨sc', us', ho', po', ps', hs'⟩ := y
  dsimp only at E1 E2 E3 P1 P2 F R5 R7
  generalize (sc == sc') = b1 at *
  generalize (us == us') = b2 at *
  generalize (ho == ho') = b3 at *
  generalize samePs ps ps' = b5 at *
  generalize samePs hs hs' = b6 at *
  generalize ps.length = n1 at *
  generalize hs.length = n2 at *
  generalize ps'.length = m1 at *
  generalize hs'.length = m2 at *
  generalize strOfNums sc = x1 at *
  generalize strOfNums us = x2 at *
  generalize strOfNums ho = x3 at *
  generalize strOfNums sc' = y1 at *
  generalize strOfNums us' = y2 at *
  generalize strOfNums ho' = y3 at *
  have k0 : w6.cell? ⟨g5, 0, none⟩ = some (.string x1) := R5.out.cell 0
  have k1 : w6.cell? ⟨g5, 1, none⟩ = some (.string x2) := R5.out.cell 1
  have k2 : w6.cell? ⟨g5, 2, none⟩ = some (.string x3) := R5.out.cell 2
  have k3 : w6.cell? ⟨g5, 3, none⟩ = some (.int .i64 po) := R5.out.cell 3
  have k4 : w6.cell? ⟨g5, 4, none⟩ = some (.slice C1 n1 e1) := R5.out.cell 4
  have k5 : w6.cell? ⟨g5, 5, none⟩ = some (.slice C2 n2 e2) := R5.out.cell 5
  have q0 : w6.cell? ⟨g7, 0, none⟩ = some (.string y1) := R7.out.cell 0
  have q1 : w6.cell? ⟨g7, 1, none⟩ = some (.string y2) := R7.out.cell 1
  have q2 : w6.cell? ⟨g7, 2, none⟩ = some (.string y3) := R7.out.cell 2
  have q3 : w6.cell? ⟨g7, 3, none⟩ = some (.int .i64 po') := R7.out.cell 3
  have q4 : w6.cell? ⟨g7, 4, none⟩ = some (.slice D1 m1 f1) := R7.out.cell 4
  have q5 : w6.cell? ⟨g7, 5, none⟩ = some (.slice D2 m2 f2) := R7.out.cell 5
  clear R5 R7
  cases b1 with
  | false =>
    go_wp2_with fail
    go_ret
    exact ⟨by rw [F.out]; rfl, B6.out⟩
  | true =>
  cases b2 with
  | false =>
    go_wp2_with fail
    go_ret
    exact ⟨by rw [F.out]; rfl, B6.out⟩
  | true =>
  cases b3 with
  | false =>
    go_wp2_with fail
    go_ret
    exact ⟨by rw [F.out]; rfl, B6.out⟩
  | true =>
  by_cases b4 : po = po'
  · have d4 : decide (po = po') = true := by simp [b4]
    have d5 : (po == po') = true := by simp [b4]
    clear b4
    go_wp2_with fail
    refine (P1.out _ (Below.refl _ _)).mono ?_
    rintro _ _ ⟨rfl, q, rfl⟩
    have HB2 := Lib.hid (show Below w.heap.size w (w6.drewN q) from B6.out.trans ⟨rfl, rfl, rfl, Nat.le_refl _, fun _ _ => rfl⟩)
    cases b5 with
    | false =>
      go_wp2_with fail
      go_ret
      exact ⟨by rw [F.out, d4]; rfl, HB2.out⟩
    | true =>
    go_wp2_with fail
    refine (P2.out (w6.drewN q) ⟨rfl, rfl, rfl, Nat.le_refl _, fun _ _ => rfl⟩).mono ?_
    rintro _ _ ⟨rfl, q2, rfl⟩
    have HB3 := Lib.hid (show Below w.heap.size w (w6.drewN (q + q2)) from HB2.out.trans ⟨rfl, rfl, rfl, Nat.le_refl _, fun _ _ => rfl⟩)
    go_wp2_with fail
    go_ret
    cases b6 with
    | false => exact ⟨by rw [F.out, d4]; rfl, HB3.out⟩
    | true => exact ⟨by rw [F.out, d4]; rfl, HB3.out⟩
  · have d4 : decide (po = po') = false := by simp [b4]
    have d5 : (po == po') = false := by simp [b4]
    clear b4
    go_wp2_with fail
    go_ret
    exact ⟨by rw [F.out, d4]; rfl, B6.out⟩
end Go.Proofs.YthfonniieaiocaaGreatDoor
namespace Go.Proofs.YthfonniieaiocaaGreatDoor
open Go.RowKit

theorem print_bad {u : Uri} (h : printU u = none) (A1 A2 : Option Addr) (c1 c2 : Nat) (w : World) (H : UArg w u A1 A2) (hC : CLS w) (hG : GM w) (hP : PT w) :
    Calls Tryz.prog 29 #[uS u A1 A2 c1 c2] w fun e w' => e = .returned (.tuple #[.string ⟨#[]⟩, .int .u8 2]) ∧ Below w.heap.size w w' := by
  have h2 := print_any u A1 A2 c1 c2 w H hC hG hP
  rw [h] at h2
  exact h2.mono fun e w' hr => ⟨hr.2, hr.1⟩
theorem equal_is {u v : Uri} {b : Bool} (h : eqU u v = b) (A1 A2 B1 B2 : Option Addr) (c1 c2 d1 d2 : Nat) (w : World) (H : UArg w u A1 A2) (H2 : UArg w v B1 B2) (hG : GM w) (hP : PT w) :
    Calls Tryz.prog 36 #[uS u A1 A2 c1 c2, uS v B1 B2 d1 d2] w fun e w' => e = .returned (.bool b) ∧ Below w.heap.size w w' := by
  have h2 := equal_any u v A1 A2 B1 B2 c1 c2 d1 d2 w H H2 hG hP
  rw [h] at h2
  exact h2
set_option maxRecDepth 100000 in
set_option maxHeartbeats 2000000 in
theorem round_any (u : Uri) (A1 A2 : Option Addr) (c1 c2 : Nat) (w : World) (H : UArg w u A1 A2) (hC : CLS w) (hG : GM w) (hP : PT w) : Calls Tryz.prog 10 #[uS u A1 A2 c1 c2] w fun e w' => e = .returned (.bool true) ∧ Below w.heap.size w w' := by
  have HC := Lib.hid (fun w' (h : Below w.heap.size w w') => hC.below h)
  have HG := Lib.hid (fun w' (h : Below w.heap.size w w') => hG.below h)
  have HP := Lib.hid (fun w' (h : Below w.heap.size w w') => hP.below h)
  have AW := Lib.hid (fun w' (h : Below w.heap.size w w') => awake_any w' (hC.below h) (hG.below h) (hP.below h))
  have UB := Lib.hid H.by_
  have RU := Lib.hid (Row.new w 32 [.string (strOfNums u.sc), .string (strOfNums u.us), .string (strOfNums u.ho), .int .i64 u.po, .slice A1 u.ps.length c1, .slice A2 u.hs.length c2])
  have B0 := Lib.hid ((Below.refl w.heap.size w).alloc (Nat.le_refl _) (.cells ([.string (strOfNums u.sc), .string (strOfNums u.us), .string (strOfNums u.ho), .int .i64 u.po, .slice A1 u.ps.length c1, .slice A2 u.hs.length c2] : List Value).toArray 32))
  have UA := Lib.hid (H.step B0.out)
  have N1 := H.l1
  have N2 := H.l2
  clear hC hG hP H
  unfold uS
  go_enter Tryz.func10, Tryz.ntmps10
  go_upto_region 1 with (fail)
  generalize w.alloc (.cells #[.string (strOfNums u.sc), .string (strOfNums u.us), .string (strOfNums u.ho), .int .i64 u.po, .slice A1 u.ps.length c1, .slice A2 u.hs.length c2] 32) = w1 at *
  generalize hg : w.heap.size = g1 at *
  replace B0 := Lib.hid (show Below w.heap.size w w1 by rw [hg]; exact B0.out)
  replace HC := Lib.hid (show ∀ w', Below w.heap.size w w' → CLS w' by rw [hg]; exact HC.out)
  replace HG := Lib.hid (show ∀ w', Below w.heap.size w w' → GM w' by rw [hg]; exact HG.out)
  replace HP := Lib.hid (show ∀ w', Below w.heap.size w w' → PT w' by rw [hg]; exact HP.out)
  have AW2 := Lib.hid (fun w' (h : Below w.heap.size w w') => AW.out w' (hg ▸ h))
  clear AW
  have k0 : w1.cell? ⟨g1, 0, none⟩ = some (.string (strOfNums u.sc)) := RU.out.cell 0
  have k1 : w1.cell? ⟨g1, 1, none⟩ = some (.string (strOfNums u.us)) := RU.out.cell 1
  have k2 : w1.cell? ⟨g1, 2, none⟩ = some (.string (strOfNums u.ho)) := RU.out.cell 2
  have k3 : w1.cell? ⟨g1, 3, none⟩ = some (.int .i64 u.po) := RU.out.cell 3
  have k4 : w1.cell? ⟨g1, 4, none⟩ = some (.slice A1 u.ps.length c1) := RU.out.cell 4
  have k5 : w1.cell? ⟨g1, 5, none⟩ = some (.slice A2 u.hs.length c2) := RU.out.cell 5
  by_cases h40 : 40 < u.ps.length + u.hs.length
  · have d40 : decide ((40 : Int) < (u.ps.length : Int) + (u.hs.length : Int)) = true := by simp; omega
    have d40' : (40 : Int) < (u.ps.length : Int) + (u.hs.length : Int) := by omega
    go_wp2_with fail
    refine (AW2.out _ B0.out).mono ?_
    rintro _ wz ⟨rfl, hbz⟩
    have BZ := Lib.hid (bthen B0.out hbz)
    go_wp2_with fail
    go_ret
    exact ⟨rfl, BZ.out⟩
  have d40 : decide ((40 : Int) < (u.ps.length : Int) + (u.hs.length : Int)) = false := by simp; omega
  have d40' : ¬ (40 : Int) < (u.ps.length : Int) + (u.hs.length : Int) := by omega
  clear h40
  cases hn : normL u with
  | none =>
    have PN := Lib.hid (show printU u = none by unfold printU; rw [hn]; rfl)
    have EN := Lib.hid (show eqU u u = false by unfold eqU; rw [hn])
    have HN := Lib.hid hn
    clear hn
    go_wp2_with fail
    refine (print_bad PN.out A1 A2 c1 c2 w1 UA.out (HC.out _ B0.out) (HG.out _ B0.out) (HP.out _ B0.out)).mono ?_
    rintro e w2 ⟨rfl, hb2⟩
    have B2 := Lib.hid (bthen B0.out hb2)
    replace RU := Lib.hid (RU.out.below hb2)
    replace UA := Lib.hid (UA.out.step hb2)
    clear k0 k1 k2 k3 k4 k5 hb2 B0
    have k0 : w2.cell? ⟨g1, 0, none⟩ = some (.string (strOfNums u.sc)) := RU.out.cell 0
    have k1 : w2.cell? ⟨g1, 1, none⟩ = some (.string (strOfNums u.us)) := RU.out.cell 1
    have k2 : w2.cell? ⟨g1, 2, none⟩ = some (.string (strOfNums u.ho)) := RU.out.cell 2
    have k3 : w2.cell? ⟨g1, 3, none⟩ = some (.int .i64 u.po) := RU.out.cell 3
    have k4 : w2.cell? ⟨g1, 4, none⟩ = some (.slice A1 u.ps.length c1) := RU.out.cell 4
    have k5 : w2.cell? ⟨g1, 5, none⟩ = some (.slice A2 u.hs.length c2) := RU.out.cell 5
    go_wp2_with fail
    refine (norm_bad HN.out A1 A2 c1 c2 w2 UA.out (HG.out _ B2.out) (HP.out _ B2.out)).mono ?_
    rintro e w3 ⟨rfl, hb3⟩
    have S3 := Lib.hid hb3
    have RZ := Lib.hid (Row.new w3 32 [.string ⟨#[]⟩, .string ⟨#[]⟩, .string ⟨#[]⟩, .int .i64 0, .slice none 0 0, .slice none 0 0])
    go_wp2_with (with_reducible refine wpList_storeG rfl 32 (.tmp 5) (.tmp 29) rfl RZ.out [.string ⟨#[]⟩, .string ⟨#[]⟩, .string ⟨#[]⟩, .int .i64 0, .slice none 0 0, .slice none 0 0] rfl rfl (lenU _ _ _ _ _ _ _ _ _ _ _ _) (sizeU _ _ _ _ _ _) (u_one _ _ _ _) ?_)
    intro w4 R5 G_
    have S4 := Lib.hid (below_store (w := w3) (T := 32) (zs := [.string ⟨#[]⟩, .string ⟨#[]⟩, .string ⟨#[]⟩, .int .i64 0, .slice none 0 0, .slice none 0 0]) (Below.refl _ _) G_.out)
    clear RZ G_
    replace S3 := Lib.hid (bthen S3.out S4.out)
    have B4 := Lib.hid (bthen B2.out S3.out)
    replace RU := Lib.hid (RU.out.below S3.out)
    replace UA := Lib.hid (UA.out.step S3.out)
    clear k0 k1 k2 k3 k4 k5 S3 S4 B2
    generalize w3.heap.size = g5 at *
    have m0 : w4.cell? ⟨g5, 0, none⟩ = some (.string ⟨#[]⟩) := R5.out.cell 0
    have m1 : w4.cell? ⟨g5, 1, none⟩ = some (.string ⟨#[]⟩) := R5.out.cell 1
    have m2 : w4.cell? ⟨g5, 2, none⟩ = some (.string ⟨#[]⟩) := R5.out.cell 2
    have m3 : w4.cell? ⟨g5, 3, none⟩ = some (.int .i64 0) := R5.out.cell 3
    have m4 : w4.cell? ⟨g5, 4, none⟩ = some (.slice none 0 0) := R5.out.cell 4
    have m5 : w4.cell? ⟨g5, 5, none⟩ = some (.slice none 0 0) := R5.out.cell 5
    go_wp2_with fail
    refine (same_zero w4).mono ?_
    rintro _ w5 ⟨rfl, hb5⟩
    have B5 := Lib.hid (bthen B4.out hb5)
    replace RU := Lib.hid (RU.out.below hb5)
    replace UA := Lib.hid (UA.out.step hb5)
    clear m0 m1 m2 m3 m4 m5 hb5 B4
    have k0 : w5.cell? ⟨g1, 0, none⟩ = some (.string (strOfNums u.sc)) := RU.out.cell 0
    have k1 : w5.cell? ⟨g1, 1, none⟩ = some (.string (strOfNums u.us)) := RU.out.cell 1
    have k2 : w5.cell? ⟨g1, 2, none⟩ = some (.string (strOfNums u.ho)) := RU.out.cell 2
    have k3 : w5.cell? ⟨g1, 3, none⟩ = some (.int .i64 u.po) := RU.out.cell 3
    have k4 : w5.cell? ⟨g1, 4, none⟩ = some (.slice A1 u.ps.length c1) := RU.out.cell 4
    have k5 : w5.cell? ⟨g1, 5, none⟩ = some (.slice A2 u.hs.length c2) := RU.out.cell 5
    go_wp2_with fail
    refine (equal_is EN.out A1 A2 A1 A2 c1 c2 c1 c2 w5 UA.out UA.out (HG.out _ B5.out) (HP.out _ B5.out)).mono ?_
    rintro _ w6 ⟨rfl, hb6⟩
    have B6 := Lib.hid (bthen B5.out hb6)
    clear k0 k1 k2 k3 k4 k5 hb6 B5
    go_wp2_with fail
    refine (AW2.out _ B6.out).mono ?_
    rintro _ wz ⟨rfl, hbz⟩
    have BZ := Lib.hid (bthen B6.out hbz)
    go_wp2_with fail
    go_ret
    exact ⟨rfl, BZ.out⟩
  | some n =>
    have PN := Lib.hid (show printU u = some (printN n) by unfold printU; rw [hn]; rfl)
    obtain ⟨n', r1, r2, _, r4⟩ := round_law UB.out PN.out
    obtain rfl : n = n' := Option.some.inj (hn.symm.trans r1)
    have EU := Lib.hid (show eqU u u = true by rw [eqU_iff]; exact ⟨n, hn, hn⟩)
    have EN := Lib.hid (show eqU u n = true by rw [eqU_iff]; exact ⟨n, hn, r2⟩)
    have HN := Lib.hid hn
    have HNN := Lib.hid r2
    have HR := Lib.hid r4
    have HB := Lib.hid (printN_by (norm_ok UB.out hn))
    clear hn r1 r2 r4
    obtain ⟨t, ht⟩ : ∃ t, strOfNums (printN n) = t := ⟨_, rfl⟩
    have PG := Lib.hid (fun w' H (hb : Below w.heap.size w w') => print_good PN.out A1 A2 c1 c2 w' H (HC.out _ hb) (HG.out _ hb) (HP.out _ hb))
    rw [ht] at PG
    have PA := Lib.hid (fun (hl : t.size ≤ 1024) => by
      have h1 : (printN n).length ≤ 1024 := by rw [← num_size, ht]; exact hl
      have h2 := HR.out h1
      exact fun w' (hb : Below w.heap.size w w') => parse_good t (u := n) (by rw [← ht, byteL_str HB.out]; exact h2) w' (HC.out _ hb) (HG.out _ hb) (HP.out _ hb))
    clear HR HB ht PN UB
    go_wp2_with fail
    refine (PG.out w1 UA.out B0.out).mono ?_
    rintro e w2 ⟨rfl, hb2⟩
    have B2 := Lib.hid (bthen B0.out hb2)
    replace RU := Lib.hid (RU.out.below hb2)
    replace UA := Lib.hid (UA.out.step hb2)
    clear k0 k1 k2 k3 k4 k5 hb2 B0 PG
    have k0 : w2.cell? ⟨g1, 0, none⟩ = some (.string (strOfNums u.sc)) := RU.out.cell 0
    have k1 : w2.cell? ⟨g1, 1, none⟩ = some (.string (strOfNums u.us)) := RU.out.cell 1
    have k2 : w2.cell? ⟨g1, 2, none⟩ = some (.string (strOfNums u.ho)) := RU.out.cell 2
    have k3 : w2.cell? ⟨g1, 3, none⟩ = some (.int .i64 u.po) := RU.out.cell 3
    have k4 : w2.cell? ⟨g1, 4, none⟩ = some (.slice A1 u.ps.length c1) := RU.out.cell 4
    have k5 : w2.cell? ⟨g1, 5, none⟩ = some (.slice A2 u.hs.length c2) := RU.out.cell 5
    go_wp2_with fail
    refine (norm_good HN.out A1 A2 c1 c2 w2 UA.out (HG.out _ B2.out) (HP.out _ B2.out)).mono ?_
    rintro e w3 ⟨C1, C2, e1, e2, rfl, hb3, ua3⟩
    have S3 := Lib.hid hb3
    have UX := Lib.hid ua3
    clear hb3 ua3
    unfold uS
    have RZ := Lib.hid (Row.new w3 32 [.string ⟨#[]⟩, .string ⟨#[]⟩, .string ⟨#[]⟩, .int .i64 0, .slice none 0 0, .slice none 0 0])
    go_wp2_with (with_reducible refine wpList_storeG rfl 32 (.tmp 5) (.tmp 29) rfl RZ.out [.string (strOfNums n.sc), .string (strOfNums n.us), .string (strOfNums n.ho), .int .i64 n.po, .slice C1 n.ps.length e1, .slice C2 n.hs.length e2] rfl rfl (lenU _ _ _ _ _ _ _ _ _ _ _ _) (sizeU _ _ _ _ _ _) (u_one _ _ _ _) ?_)
    intro w4 R5 G_
    have S4 := Lib.hid (below_store (w := w3) (T := 32) (zs := [.string ⟨#[]⟩, .string ⟨#[]⟩, .string ⟨#[]⟩, .int .i64 0, .slice none 0 0, .slice none 0 0]) (Below.refl _ _) G_.out)
    clear RZ G_
    replace S3 := Lib.hid (bthen S3.out S4.out)
    have B4 := Lib.hid (bthen B2.out S3.out)
    replace RU := Lib.hid (RU.out.below S3.out)
    replace UA := Lib.hid (UA.out.step S3.out)
    replace UX := Lib.hid (UX.out.step S4.out)
    clear k0 k1 k2 k3 k4 k5 S3 S4 B2
    generalize w3.heap.size = g5 at *
    have m0 : w4.cell? ⟨g5, 0, none⟩ = some (.string (strOfNums n.sc)) := R5.out.cell 0
    have m1 : w4.cell? ⟨g5, 1, none⟩ = some (.string (strOfNums n.us)) := R5.out.cell 1
    have m2 : w4.cell? ⟨g5, 2, none⟩ = some (.string (strOfNums n.ho)) := R5.out.cell 2
    have m3 : w4.cell? ⟨g5, 3, none⟩ = some (.int .i64 n.po) := R5.out.cell 3
    have m4 : w4.cell? ⟨g5, 4, none⟩ = some (.slice C1 n.ps.length e1) := R5.out.cell 4
    have m5 : w4.cell? ⟨g5, 5, none⟩ = some (.slice C2 n.hs.length e2) := R5.out.cell 5
    go_wp2_with fail
    refine (norm_good HNN.out C1 C2 e1 e2 w4 UX.out (HG.out _ B4.out) (HP.out _ B4.out)).mono ?_
    rintro e w5 ⟨D1, D2, f1, f2, rfl, hb5, ua5⟩
    have S5 := Lib.hid hb5
    have UY := Lib.hid ua5
    clear hb5 ua5
    unfold uS
    have RZ := Lib.hid (Row.new w5 32 [.string ⟨#[]⟩, .string ⟨#[]⟩, .string ⟨#[]⟩, .int .i64 0, .slice none 0 0, .slice none 0 0])
    go_wp2_with (with_reducible refine wpList_storeG rfl 32 (.tmp 7) (.tmp 60) rfl RZ.out [.string (strOfNums n.sc), .string (strOfNums n.us), .string (strOfNums n.ho), .int .i64 n.po, .slice D1 n.ps.length f1, .slice D2 n.hs.length f2] rfl rfl (lenU _ _ _ _ _ _ _ _ _ _ _ _) (sizeU _ _ _ _ _ _) (u_one _ _ _ _) ?_)
    intro w6 R7 G_
    have S6 := Lib.hid (below_store (w := w5) (T := 32) (zs := [.string ⟨#[]⟩, .string ⟨#[]⟩, .string ⟨#[]⟩, .int .i64 0, .slice none 0 0, .slice none 0 0]) (Below.refl _ _) G_.out)
    clear RZ G_
    replace S5 := Lib.hid (bthen S5.out S6.out)
    have B6 := Lib.hid (bthen B4.out S5.out)
    replace RU := Lib.hid (RU.out.below S5.out)
    replace R5 := Lib.hid (R5.out.below S5.out)
    replace UA := Lib.hid (UA.out.step S5.out)
    replace UX := Lib.hid (UX.out.step S5.out)
    replace UY := Lib.hid (UY.out.step S6.out)
    clear m0 m1 m2 m3 m4 m5 S5 S6 B4
    generalize w5.heap.size = g7 at *
    have m0 : w6.cell? ⟨g5, 0, none⟩ = some (.string (strOfNums n.sc)) := R5.out.cell 0
    have m1 : w6.cell? ⟨g5, 1, none⟩ = some (.string (strOfNums n.us)) := R5.out.cell 1
    have m2 : w6.cell? ⟨g5, 2, none⟩ = some (.string (strOfNums n.ho)) := R5.out.cell 2
    have m3 : w6.cell? ⟨g5, 3, none⟩ = some (.int .i64 n.po) := R5.out.cell 3
    have m4 : w6.cell? ⟨g5, 4, none⟩ = some (.slice C1 n.ps.length e1) := R5.out.cell 4
    have m5 : w6.cell? ⟨g5, 5, none⟩ = some (.slice C2 n.hs.length e2) := R5.out.cell 5
    have q0 : w6.cell? ⟨g7, 0, none⟩ = some (.string (strOfNums n.sc)) := R7.out.cell 0
    have q1 : w6.cell? ⟨g7, 1, none⟩ = some (.string (strOfNums n.us)) := R7.out.cell 1
    have q2 : w6.cell? ⟨g7, 2, none⟩ = some (.string (strOfNums n.ho)) := R7.out.cell 2
    have q3 : w6.cell? ⟨g7, 3, none⟩ = some (.int .i64 n.po) := R7.out.cell 3
    have q4 : w6.cell? ⟨g7, 4, none⟩ = some (.slice D1 n.ps.length f1) := R7.out.cell 4
    have q5 : w6.cell? ⟨g7, 5, none⟩ = some (.slice D2 n.hs.length f2) := R7.out.cell 5
    go_wp2_with fail
    refine (same_one C1 C2 D1 D2 e1 e2 f1 f2 w6 UX.out UY.out).mono ?_
    rintro _ w7 ⟨rfl, hb7⟩
    have B7 := Lib.hid (bthen B6.out hb7)
    replace RU := Lib.hid (RU.out.below hb7)
    replace R5 := Lib.hid (R5.out.below hb7)
    replace UA := Lib.hid (UA.out.step hb7)
    replace UX := Lib.hid (UX.out.step hb7)
    clear m0 m1 m2 m3 m4 m5 q0 q1 q2 q3 q4 q5 hb7 B6 UY R7
    have k0 : w7.cell? ⟨g1, 0, none⟩ = some (.string (strOfNums u.sc)) := RU.out.cell 0
    have k1 : w7.cell? ⟨g1, 1, none⟩ = some (.string (strOfNums u.us)) := RU.out.cell 1
    have k2 : w7.cell? ⟨g1, 2, none⟩ = some (.string (strOfNums u.ho)) := RU.out.cell 2
    have k3 : w7.cell? ⟨g1, 3, none⟩ = some (.int .i64 u.po) := RU.out.cell 3
    have k4 : w7.cell? ⟨g1, 4, none⟩ = some (.slice A1 u.ps.length c1) := RU.out.cell 4
    have k5 : w7.cell? ⟨g1, 5, none⟩ = some (.slice A2 u.hs.length c2) := RU.out.cell 5
    have m0 : w7.cell? ⟨g5, 0, none⟩ = some (.string (strOfNums n.sc)) := R5.out.cell 0
    have m1 : w7.cell? ⟨g5, 1, none⟩ = some (.string (strOfNums n.us)) := R5.out.cell 1
    have m2 : w7.cell? ⟨g5, 2, none⟩ = some (.string (strOfNums n.ho)) := R5.out.cell 2
    have m3 : w7.cell? ⟨g5, 3, none⟩ = some (.int .i64 n.po) := R5.out.cell 3
    have m4 : w7.cell? ⟨g5, 4, none⟩ = some (.slice C1 n.ps.length e1) := R5.out.cell 4
    have m5 : w7.cell? ⟨g5, 5, none⟩ = some (.slice C2 n.hs.length e2) := R5.out.cell 5
    go_wp2_with fail
    refine (equal_is EN.out A1 A2 C1 C2 c1 c2 e1 e2 w7 UA.out UX.out (HG.out _ B7.out) (HP.out _ B7.out)).mono ?_
    rintro _ w8 ⟨rfl, hb8⟩
    have B8 := Lib.hid (bthen B7.out hb8)
    replace RU := Lib.hid (RU.out.below hb8)
    replace R5 := Lib.hid (R5.out.below hb8)
    replace UA := Lib.hid (UA.out.step hb8)
    replace UX := Lib.hid (UX.out.step hb8)
    clear k0 k1 k2 k3 k4 k5 m0 m1 m2 m3 m4 m5 hb8 B7
    have k0 : w8.cell? ⟨g1, 0, none⟩ = some (.string (strOfNums u.sc)) := RU.out.cell 0
    have k1 : w8.cell? ⟨g1, 1, none⟩ = some (.string (strOfNums u.us)) := RU.out.cell 1
    have k2 : w8.cell? ⟨g1, 2, none⟩ = some (.string (strOfNums u.ho)) := RU.out.cell 2
    have k3 : w8.cell? ⟨g1, 3, none⟩ = some (.int .i64 u.po) := RU.out.cell 3
    have k4 : w8.cell? ⟨g1, 4, none⟩ = some (.slice A1 u.ps.length c1) := RU.out.cell 4
    have k5 : w8.cell? ⟨g1, 5, none⟩ = some (.slice A2 u.hs.length c2) := RU.out.cell 5
    go_wp2_with fail
    refine (equal_is EU.out A1 A2 A1 A2 c1 c2 c1 c2 w8 UA.out UA.out (HG.out _ B8.out) (HP.out _ B8.out)).mono ?_
    rintro _ w9 ⟨rfl, hb9⟩
    have B9 := Lib.hid (bthen B8.out hb9)
    replace R5 := Lib.hid (R5.out.below hb9)
    replace UX := Lib.hid (UX.out.step hb9)
    clear k0 k1 k2 k3 k4 k5 hb9 B8 RU UA
    by_cases hl : 1024 < t.size
    · have dl : decide ((1024 : Int) < (t.size : Int)) = true := by simp; omega
      go_wp2_with fail
      refine (AW2.out _ B9.out).mono ?_
      rintro _ wz ⟨rfl, hbz⟩
      have BZ := Lib.hid (bthen B9.out hbz)
      go_wp2_with fail
      go_ret
      exact ⟨rfl, BZ.out⟩
    have dl : decide ((1024 : Int) < (t.size : Int)) = false := by simp; omega
    have PA2 := Lib.hid (PA.out (by omega))
    clear hl PA
    go_wp2_with fail
    refine (PA2.out _ B9.out).mono ?_
    rintro e w10 ⟨E1, E2, h1, h2, rfl, hb10, ua10⟩
    have S10 := Lib.hid hb10
    have UZ := Lib.hid ua10
    clear hb10 ua10
    unfold uS
    have RZ := Lib.hid (Row.new w10 32 [.string ⟨#[]⟩, .string ⟨#[]⟩, .string ⟨#[]⟩, .int .i64 0, .slice none 0 0, .slice none 0 0])
    go_wp2_with (with_reducible refine wpList_storeG rfl 32 (.tmp 9) (.tmp 93) rfl RZ.out [.string (strOfNums n.sc), .string (strOfNums n.us), .string (strOfNums n.ho), .int .i64 n.po, .slice E1 n.ps.length h1, .slice E2 n.hs.length h2] rfl rfl (lenU _ _ _ _ _ _ _ _ _ _ _ _) (sizeU _ _ _ _ _ _) (u_one _ _ _ _) ?_)
    intro w11 R9 G_
    have S11 := Lib.hid (below_store (w := w10) (T := 32) (zs := [.string ⟨#[]⟩, .string ⟨#[]⟩, .string ⟨#[]⟩, .int .i64 0, .slice none 0 0, .slice none 0 0]) (Below.refl _ _) G_.out)
    clear RZ G_
    replace S10 := Lib.hid (bthen S10.out S11.out)
    have B11 := Lib.hid (bthen B9.out S10.out)
    replace R5 := Lib.hid (R5.out.below S10.out)
    replace UX := Lib.hid (UX.out.step S10.out)
    replace UZ := Lib.hid (UZ.out.step S11.out)
    clear S10 S11 B9
    generalize w10.heap.size = g9 at *
    have m0 : w11.cell? ⟨g5, 0, none⟩ = some (.string (strOfNums n.sc)) := R5.out.cell 0
    have m1 : w11.cell? ⟨g5, 1, none⟩ = some (.string (strOfNums n.us)) := R5.out.cell 1
    have m2 : w11.cell? ⟨g5, 2, none⟩ = some (.string (strOfNums n.ho)) := R5.out.cell 2
    have m3 : w11.cell? ⟨g5, 3, none⟩ = some (.int .i64 n.po) := R5.out.cell 3
    have m4 : w11.cell? ⟨g5, 4, none⟩ = some (.slice C1 n.ps.length e1) := R5.out.cell 4
    have m5 : w11.cell? ⟨g5, 5, none⟩ = some (.slice C2 n.hs.length e2) := R5.out.cell 5
    have q0 : w11.cell? ⟨g9, 0, none⟩ = some (.string (strOfNums n.sc)) := R9.out.cell 0
    have q1 : w11.cell? ⟨g9, 1, none⟩ = some (.string (strOfNums n.us)) := R9.out.cell 1
    have q2 : w11.cell? ⟨g9, 2, none⟩ = some (.string (strOfNums n.ho)) := R9.out.cell 2
    have q3 : w11.cell? ⟨g9, 3, none⟩ = some (.int .i64 n.po) := R9.out.cell 3
    have q4 : w11.cell? ⟨g9, 4, none⟩ = some (.slice E1 n.ps.length h1) := R9.out.cell 4
    have q5 : w11.cell? ⟨g9, 5, none⟩ = some (.slice E2 n.hs.length h2) := R9.out.cell 5
    go_wp2_with fail
    refine (same_one E1 E2 C1 C2 h1 h2 e1 e2 w11 UZ.out UX.out).mono ?_
    rintro _ w12 ⟨rfl, hb12⟩
    have B12 := Lib.hid (bthen B11.out hb12)
    clear m0 m1 m2 m3 m4 m5 q0 q1 q2 q3 q4 q5 hb12 B11
    go_wp2_with fail
    refine (AW2.out _ B12.out).mono ?_
    rintro _ wz ⟨rfl, hbz⟩
    have BZ := Lib.hid (bthen B12.out hbz)
    go_wp2_with fail
    go_ret
    exact ⟨rfl, BZ.out⟩
end Go.Proofs.YthfonniieaiocaaGreatDoor
namespace Go.Proofs.YthfonniieaiocaaGreatDoor
open Go.ChangeShapes Go.WideShapes Go.ChangeAt Go.RowKit
open Go.ChangeMaps (open_string shut_string)

theorem list_of {α : Type} {R : Nat → α → Prop} : ∀ n : Nat, (∀ i, i < n → ∃ e, R i e) → ∃ l : List α, l.length = n ∧ ∀ (i : Nat) (e : α), l[i]? = some e → R i e
  | 0, _ => ⟨[], rfl, fun i e h => by simp at h⟩
  | n + 1, h => by
    obtain ⟨l, hl, hr⟩ := list_of n fun i hi => h i (by omega)
    obtain ⟨e, he⟩ := h n (by omega)
    refine ⟨l ++ [e], by simp [hl], fun i x hx => ?_⟩
    rcases Nat.lt_or_ge i n with h1 | h1
    · rw [List.getElem?_append_left (by omega)] at hx; exact hr i x hx
    · have h2 : i < (l ++ [e]).length := (List.getElem?_eq_some_iff.1 hx).1
      obtain rfl : i = n := by simp at h2; omega
      rw [List.getElem?_append_right (by omega)] at hx
      obtain rfl : e = x := by simpa [hl] using hx
      exact he

section
open Go.Deep
variable {H : Type} {enc : TypeId × Value → H} {P : Program} {w : World} {base : Nat} {spare : Nat → Bool} {held : Bool}
theorem open_slice_fields {t e : TypeId} {fs : Array Field} {fuel : Nat} {cs : List Value} {x : DataW H × List MemPlace} (ht : P.underlying t = some (.slice e)) (he : P.underlying e = some (.struct fs))
    (hone : oneCellFields P fs = true) (hC : P.cellsOf e = fs.size) (h : DataW.trod enc P w base spare held fuel t cs = some x) :
    (cs = [.slice none 0 0] ∧ x = (.nil, [])) ∨
    ∃ (a : Addr) (len cap m : Nat) (D : Nat → DataW H) (Pl : Nat → List MemPlace), cs = [.slice (some a) len cap] ∧ base ≤ a.block ∧ len ≤ cap ∧ cap ≤ maxLen ∧ m = (if spare a.block then cap else len) ∧
      x = (.slice ((List.range len).map D) ((List.range (m - len)).map fun j => D (len + j)), MemPlace.row a (m * fs.size) ++ (List.range m).flatMap Pl) ∧
      ∀ i, i < m → ∃ (ys : List (DataW H × List MemPlace)) (n : Nat), D i = .agg (ys.map (·.1)) ∧ Pl i = ys.flatMap (·.2) ∧ ys.length = fs.size ∧
        ∀ (j : Nat) (f : Field), fs[j]? = some f → ∃ (v : Value) (y : DataW H × List MemPlace), w.cell? (a.add (i * fs.size + j)) = some v ∧ ys[j]? = some y ∧ DataW.trod enc P w base spare held n f.type [v] = some y := by
  rcases open_slice ht h with h0 | ⟨a, len, cap, m, n, D, Pl, hcs, hb, hl, hm, hmm, hx, hi⟩
  · exact .inl h0
  · refine .inr ⟨a, len, cap, m, D, Pl, hcs, hb, hl, hm, hmm, by rw [hC] at hx; exact hx, fun i him => ?_⟩
    obtain ⟨cs', hc, ht'⟩ := hi i him
    rw [hC] at hc
    obtain ⟨ys, n', hn', hy, hlen, hyl, hf⟩ := DataW.trod_struct he ht'
    obtain ⟨_, hcl, hat⟩ := World.cells?_some hc
    simp only [Prod.mk.injEq] at hy
    refine ⟨ys, n', hy.1, hy.2, hyl, fun j f hj => ?_⟩
    obtain ⟨ho, hk⟩ := hone_of hone j f hj
    have hjl : j < fs.size := (Array.getElem?_eq_some_iff.1 hj).1
    have hcell := hat j hjl
    have hv : cs'[j]? = some (cs'[j]'(by omega)) := List.getElem?_eq_getElem (by omega)
    have h1 := hf j f hj
    rw [ho, hk] at h1
    have hone' : (cs'.drop j).take 1 = [cs'[j]'(by omega)] := by
      rw [List.drop_eq_getElem_cons (by omega)]
      rfl
    rw [hone'] at h1
    have hys : ys[j]? = some (ys[j]'(by omega)) := List.getElem?_eq_getElem (by omega)
    refine ⟨_, _, ?_, hys, h1.trans hys⟩
    rw [← Go.Deep.add_add, hcell, hv]
end
section
variable {H : Type} {enc : TypeId × Value → H} {W : World} {b0 : Nat} {v : Value} {d : DataW H} {p : List MemPlace}
theorem one_str {base : Nat} {sp : Nat → Bool} {hd : Bool} {n : Nat} {x : Value} {y : DataW H × List MemPlace} (h : DataW.trod enc Tryz.prog W base sp hd n 9 [x] = some y) : ∃ s : ByteArray, x = .string s ∧ y.1 = .lit (.string s.data.toList) := by
  obtain ⟨s, hc, hx, _⟩ := DataW.trod_string Tryz.underlying9 h
  exact ⟨s, by simpa using hc, by rw [hx]⟩
theorem one_bool {base : Nat} {sp : Nat → Bool} {hd : Bool} {n : Nat} {x : Value} {y : DataW H × List MemPlace} (h : DataW.trod enc Tryz.prog W base sp hd n 4 [x] = some y) : ∃ s : Bool, x = .bool s := by
  obtain ⟨s, hc, _⟩ := DataW.trod_bool Tryz.underlying4 h
  exact ⟨s, by simpa using hc⟩
theorem one_int {base : Nat} {sp : Nat → Bool} {hd : Bool} {n : Nat} {x : Value} {y : DataW H × List MemPlace} (h : DataW.trod enc Tryz.prog W base sp hd n 3 [x] = some y) : ∃ k : Int, x = .int .i64 k := by
  obtain ⟨s, hc, _⟩ := DataW.trod_int Tryz.underlying3 h
  exact ⟨s, by simpa using hc⟩
theorem bulk_str (s : ByteArray) : Rows.uptoBulk (DataW.lit (H := H) (.string s.data.toList)) = s.size + 1 := by
  simp [Rows.uptoBulk]
theorem bulk_mem : ∀ {L : List (DataW H)} {d : DataW H}, d ∈ L → Rows.uptoBulk d ≤ Rows.uptoBulkAll L
  | x :: L, d, h => by
    rw [Rows.uptoBulkAll]
    rcases List.mem_cons.1 h with rfl | h
    · omega
    · have := bulk_mem h
      omega
theorem bulk_len : ∀ {L : List (DataW H)}, (∀ d ∈ L, 1 ≤ Rows.uptoBulk d) → L.length ≤ Rows.uptoBulkAll L
  | [], _ => Nat.zero_le _
  | x :: L, h => by
    rw [Rows.uptoBulkAll, List.length_cons]
    have h1 := h x (by simp)
    have h2 := bulk_len (L := L) fun d hd => h d (by simp [hd])
    omega
theorem cPs1 : Tryz.prog.cellsOf 30 = 1 := by kernel_rfl
theorem cPm3 : Tryz.prog.cellsOf 56 = 3 := by kernel_rfl
theorem c6u : Tryz.prog.cellsOf 32 = 6 := by kernel_rfl
theorem toPm_n (x : PB) : (toPm x).n.length = x.1.size ∧ (toPm x).v.length = x.2.1.size := ⟨byteL_len _, byteL_len _⟩
theorem pcs_trod {fuel : Nat} {base : Nat} {sp : Nat → Bool} {hd : Bool} {v : Value} {y : DataW H × List MemPlace} (hsp : ∀ b, sp b = true) (h : DataW.trod enc Tryz.prog W base sp hd fuel 30 [v] = some y) :
    ∃ (A : Option Addr) (n c : Nat) (l : List PB), v = .slice A n c ∧ l.length = n ∧ Rds W W.heap.size A (pms (l.map toPm)) ∧ n ≤ Rows.uptoBulk y.1 ∧ ∀ h ∈ l, h.1.size ≤ Rows.uptoBulk y.1 ∧ h.2.1.size ≤ Rows.uptoBulk y.1 := by
  rcases open_slice_fields Tryz.underlying30 Tryz.underlying56 (by kernel_rfl) cPm3 h with ⟨hcs, _⟩ | ⟨a, len, cap, m, D, Pl, hcs, _, hl, hm, hmm, hx, hi⟩
  · simp at hcs
    exact ⟨none, 0, 0, [], hcs, rfl, fun h => absurd h (by simp [pms]), Nat.zero_le _, fun h hh => absurd hh (by simp)⟩
  · simp at hcs
    subst hcs
    rw [if_pos (hsp _)] at hmm
    subst hmm
    have key : ∀ i, i < len → ∃ e : PB, W.cell? (a.add (i * 3)) = some (.string e.1) ∧ W.cell? (a.add (i * 3 + 1)) = some (.string e.2.1) ∧ W.cell? (a.add (i * 3 + 2)) = some (.bool e.2.2) ∧ e.1.size + e.2.1.size + 3 ≤ Rows.uptoBulk (D i) := by
      intro i hin
      obtain ⟨ys, n', hD, _, hyl, hf⟩ := hi i (by omega)
      obtain ⟨v0, y0, c0, g0, t0⟩ := hf 0 _ rfl
      obtain ⟨v1, y1, c1, g1, t1⟩ := hf 1 _ rfl
      obtain ⟨v2, y2, c2, g2, t2⟩ := hf 2 _ rfl
      obtain ⟨s0, rfl, z0⟩ := one_str t0
      obtain ⟨s1, rfl, z1⟩ := one_str t1
      obtain ⟨s2, rfl⟩ := one_bool t2
      refine ⟨(s0, s1, s2), c0, c1, c2, ?_⟩
      obtain ⟨p0, p1, p2, rfl⟩ : ∃ p0 p1 p2, ys = [p0, p1, p2] := by
        match ys, hyl with
        | [p0, p1, p2], _ => exact ⟨p0, p1, p2, rfl⟩
      obtain rfl : p0 = y0 := by simpa using g0
      obtain rfl : p1 = y1 := by simpa using g1
      rw [hD]
      simp only [List.map_cons, List.map_nil, Rows.uptoBulk, Rows.uptoBulkAll, z0, z1]
      simp
      omega
    obtain ⟨l, hll, hr⟩ := list_of len key
    have hy : Rows.uptoBulk y.1 = Rows.uptoBulkAll ((List.range len).map D) + Rows.uptoBulkAll ((List.range (m - len)).map fun j => D (len + j)) + 1 := by rw [hx]; rfl
    have hd : ∀ d ∈ (List.range len).map D, 1 ≤ Rows.uptoBulk d := fun d hd => by
      obtain ⟨i, hi1, rfl⟩ := List.mem_map.1 hd
      obtain ⟨e, _, _, _, h3⟩ := key i (by simpa using hi1)
      omega
    have hn := bulk_len hd
    rw [List.length_map, List.length_range] at hn
    refine ⟨some a, len, m, l, rfl, hll, fun h0 => ?_, by omega, fun h hh => ?_⟩
    · rw [pms_len, List.length_map, hll] at h0
      obtain ⟨e, c0, _⟩ := key 0 (by omega)
      obtain ⟨b, o, sp'⟩ := a
      have hsp' : sp' = none := by
        cases sp' with
        | none => rfl
        | some s => simp [Addr.add, World.cell?] at c0; split at c0 <;> simp at c0
      subst hsp'
      refine ⟨b, o, rfl, by simpa [Addr.add] using World.block_lt_of_cell? W _ c0, fun j u hu => ?_⟩
      have hj := (List.getElem?_eq_some_iff.1 hu).1
      rw [pms_len, List.length_map, hll] at hj
      obtain ⟨q, hq⟩ : ∃ q, l[j / 3]? = some q := ⟨_, List.getElem?_eq_getElem (by omega)⟩
      obtain ⟨q0, q1, q2, _⟩ := hr (j / 3) q hq
      have hq' : (l.map toPm)[j / 3]? = some (toPm q) := by rw [List.getElem?_map, hq]; rfl
      have AT := pms_at hq'
      rw [encP_to] at AT
      rw [Addr.add_mid] at q0 q1 q2
      rcases (show j % 3 = 0 ∨ j % 3 = 1 ∨ j % 3 = 2 by omega) with hj2 | hj2 | hj2
      · have h4 := AT 0 _ rfl
        rw [show j / 3 * 3 + 0 = j by omega, hu] at h4
        cases h4
        rwa [show o + j / 3 * 3 = o + j by omega] at q0
      · have h4 := AT 1 _ rfl
        rw [show j / 3 * 3 + 1 = j by omega, hu] at h4
        cases h4
        rwa [show o + (j / 3 * 3 + 1) = o + j by omega] at q1
      · have h4 := AT 2 _ rfl
        rw [show j / 3 * 3 + 2 = j by omega, hu] at h4
        cases h4
        rwa [show o + (j / 3 * 3 + 2) = o + j by omega] at q2
    · obtain ⟨i, hi1⟩ := List.mem_iff_getElem?.1 hh
      obtain ⟨_, _, _, h3⟩ := hr i h hi1
      have hi2 : i < len := by rw [← hll]; exact (List.getElem?_eq_some_iff.1 hi1).1
      have h4 := bulk_mem (List.mem_map.2 ⟨i, by simpa using hi2, rfl⟩ : D i ∈ (List.range len).map D)
      exact ⟨by omega, by omega⟩
set_option maxRecDepth 100000 in
theorem sixN {α : Type} {l : List α} (h : l.length = 6) : ∃ x0 x1 x2 x3 x4 x5, l = [x0, x1, x2, x3, x4, x5] := by
  match l, h with
  | [x0, x1, x2, x3, x4, x5], _ => exact ⟨x0, x1, x2, x3, x4, x5, rfl⟩
set_option maxRecDepth 100000 in
theorem uri_trod {fuel base : Nat} {sp : Nat → Bool} {hd : Bool} {cs : List Value} {x : DataW H × List MemPlace} (hsp : ∀ b, sp b = true) (h : DataW.trod enc Tryz.prog W base sp hd fuel 32 cs = some x) (hb : Rows.uptoBulk x.1 ≤ 1048576) :
    ∃ (u : Uri) (A1 A2 : Option Addr) (c1 c2 : Nat), cs = [.string (strOfNums u.sc), .string (strOfNums u.us), .string (strOfNums u.ho), .int .i64 u.po, .slice A1 u.ps.length c1, .slice A2 u.hs.length c2] ∧ UArg W u A1 A2 := by
  obtain ⟨xs, n, _, hx, hl, hlen, hfld⟩ := DataW.trod_struct Tryz.underlying32 h
  rw [c6u] at hl
  obtain ⟨x0, x1, x2, x3, x4, x5, rfl⟩ := sixN hl
  obtain ⟨y0, y1, y2, y3, y4, y5, rfl⟩ := sixN (show xs.length = 6 from hlen)
  have e0 : DataW.trod enc Tryz.prog W base sp hd n 9 (([x0, x1, x2, x3, x4, x5].drop 0).take (Tryz.prog.cellsOf 9)) = some y0 := hfld 0 _ rfl
  rw [cS] at e0
  have e1 : DataW.trod enc Tryz.prog W base sp hd n 9 (([x0, x1, x2, x3, x4, x5].drop 1).take (Tryz.prog.cellsOf 9)) = some y1 := hfld 1 _ rfl
  rw [cS] at e1
  have e2 : DataW.trod enc Tryz.prog W base sp hd n 9 (([x0, x1, x2, x3, x4, x5].drop 2).take (Tryz.prog.cellsOf 9)) = some y2 := hfld 2 _ rfl
  rw [cS] at e2
  have e3 : DataW.trod enc Tryz.prog W base sp hd n 3 (([x0, x1, x2, x3, x4, x5].drop 3).take (Tryz.prog.cellsOf 3)) = some y3 := hfld 3 _ rfl
  rw [cI] at e3
  have e4 : DataW.trod enc Tryz.prog W base sp hd n 30 (([x0, x1, x2, x3, x4, x5].drop 4).take (Tryz.prog.cellsOf 30)) = some y4 := hfld 4 _ rfl
  rw [cPs1] at e4
  have e5 : DataW.trod enc Tryz.prog W base sp hd n 30 (([x0, x1, x2, x3, x4, x5].drop 5).take (Tryz.prog.cellsOf 30)) = some y5 := hfld 5 _ rfl
  rw [cPs1] at e5
  obtain ⟨a0, rfl, z0⟩ := one_str (x := x0) (y := y0) e0
  obtain ⟨a1, rfl, z1⟩ := one_str (x := x1) (y := y1) e1
  obtain ⟨a2, rfl, z2⟩ := one_str (x := x2) (y := y2) e2
  obtain ⟨a3, rfl⟩ := one_int (x := x3) (y := y3) e3
  obtain ⟨A4, n4, c4, l4, rfl, u4, v4, w4, t4⟩ := pcs_trod (v := x4) (y := y4) hsp e4
  obtain ⟨A5, n5, c5, l5, rfl, u5, v5, w5, t5⟩ := pcs_trod (v := x5) (y := y5) hsp e5
  have hbb : Rows.uptoBulk x.1 = Rows.uptoBulk y0.1 + Rows.uptoBulk y1.1 + Rows.uptoBulk y2.1 + Rows.uptoBulk y3.1 + Rows.uptoBulk y4.1 + Rows.uptoBulk y5.1 + 1 := by
    rw [hx]
    simp only [List.map_cons, List.map_nil, Rows.uptoBulk, Rows.uptoBulkAll]
    omega
  have k0 := bulk_str (H := H) a0
  rw [← z0] at k0
  have k1 := bulk_str (H := H) a1
  rw [← z1] at k1
  have k2 := bulk_str (H := H) a2
  rw [← z2] at k2
  have P4 : ∀ p ∈ l4.map toPm, pmSz p := fun p hp => by
    obtain ⟨q, hq, rfl⟩ := List.mem_map.1 hp
    have := t4 q hq
    have := toPm_n q
    exact ⟨(toPm_by q).1, (toPm_by q).2, by omega, by omega⟩
  have P5 : ∀ p ∈ l5.map toPm, pmSz p := fun p hp => by
    obtain ⟨q, hq, rfl⟩ := List.mem_map.1 hp
    have := t5 q hq
    have := toPm_n q
    exact ⟨(toPm_by q).1, (toPm_by q).2, by omega, by omega⟩
  have m4 : (l4.map toPm).length = n4 := by rw [List.length_map, u4]
  have m5 : (l5.map toPm).length = n5 := by rw [List.length_map, u5]
  refine ⟨⟨byteL a0, byteL a1, byteL a2, a3, l4.map toPm, l5.map toPm⟩, A4, A5, c4, c5, ?_, ⟨⟨byteL_by _, byteL_by _, byteL_by _, fun p hp => ⟨(P4 p hp).1, (P4 p hp).2.1⟩, fun p hp => ⟨(P5 p hp).1, (P5 p hp).2.1⟩⟩, ?_, ?_, ?_, P4, P5, v4, v5, ?_, ?_⟩⟩
  · dsimp only
    rw [str_byteL, str_byteL, str_byteL, m4, m5]
  · show (byteL a0).length ≤ 4000000; rw [byteL_len]; omega
  · show (byteL a1).length ≤ 4000000; rw [byteL_len]; omega
  · show (byteL a2).length ≤ 4000000; rw [byteL_len]; omega
  · show (l4.map toPm).length ≤ 16000000; omega
  · show (l5.map toPm).length ≤ 16000000; omega
set_option linter.constructorNameAsVariable false
set_option maxRecDepth 100000 in
theorem uri_open (hv : Value.okWide Tryz.prog W .any b0 32 v) (h : DataW.Trod enc Tryz.prog W 0 (fun _ => true) true 32 v d p) (hb : Rows.uptoBulk d ≤ 1048576) :
    ∃ (u : Uri) (A1 A2 : Option Addr) (c1 c2 : Nat), v = uS u A1 A2 c1 c2 ∧ UArg W u A1 A2 := by
  obtain ⟨cs, rfl, hsz⟩ := okWide_struct Tryz.underlying32 hv
  obtain ⟨fuel, hf⟩ := h
  obtain ⟨u, A1, A2, c1, c2, hL, hu⟩ := uri_trod (fun _ => rfl) hf hb
  refine ⟨u, A1, A2, c1, c2, ?_, hu⟩
  unfold uS
  congr 1
  apply Array.toList_inj.1
  exact hL
end
end Go.Proofs.YthfonniieaiocaaGreatDoor
