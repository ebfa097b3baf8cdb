/- The law AddressReads. -/
import Derived.Test.YthfonniieaiocaaGreatDoorXy
import Derived.Test.YthfonniieaiocaaGreatDoorWu
set_option linter.unusedVariables false
set_option linter.unusedSimpArgs false
namespace Go.Proofs.YthfonniieaiocaaGreatDoor
open Go.RowKit

theorem pars_sz {X : List Int} (hX : By X) : ∀ (f a : Nat) (l m : List Pm), a ≤ X.length → (∀ p ∈ l, (By p.n ∧ By p.v) ∧ p.n.length ≤ X.length ∧ p.v.length ≤ X.length) → parsN X f a l = .ok m → ∀ p ∈ m, (By p.n ∧ By p.v) ∧ p.n.length ≤ X.length ∧ p.v.length ≤ X.length
  | 0, a, l, m, _, hl, h => by unfold parsN at h; injection h with h; subst h; exact hl
  | f + 1, a, l, m, ha, hl, h => by
    rw [parsN_eq rfl rfl] at h
    have a0s : skipTo isBlank X a ≤ X.length := skip_le ha
    by_cases h1 : X.length ≤ skipTo isBlank X a
    · rw [if_pos h1] at h; injection h with h; subst h; exact hl
    rw [if_neg h1] at h
    by_cases h2 : X.getD (skipTo isBlank X a) 0 ≠ 59
    · rw [if_pos h2] at h; cases h
    rw [if_neg h2] at h
    have a1s : skipTo isBlank X (skipTo isBlank X a + 1) ≤ X.length := skip_le (by omega)
    cases hr : listedH X (skipTo isBlank X (skipTo isBlank X a + 1)) with
    | error e => rw [hr] at h; cases h
    | ok q =>
      obtain ⟨p, a2⟩ := q
      rw [hr] at h
      dsimp only at h
      obtain ⟨o1, o2, o3, o4, o5, o6⟩ := listedH_ok hX a1s hr
      by_cases h3 : roomL l p.n ≠ 0
      · rw [if_pos h3] at h; cases h
      · rw [if_neg h3] at h
        refine pars_sz hX f a2 (l ++ [p]) m o6 (fun q hq => ?_) h
        rcases List.mem_append.1 hq with hq | hq
        · exact hl q hq
        · rw [List.mem_singleton] at hq; subst hq; exact ⟨⟨o1, o2⟩, o3, o4⟩
theorem aim_uri {xs : List Int} {b c : Nat} {u : Uri} (h : aimL xs b = .ok (u, c)) : ∃ i j, uriL (subL xs i j) = .ok u := by
  cases h60 : atL xs b 60 with
  | true =>
    rw [aim_in h60 rfl] at h
    split at h
    · cases h
    · unfold aimX at h
      split at h
      · cases h
      · rename_i u' hu
        injection h with h
        injection h with h _
        subst h
        exact ⟨_, _, hu⟩
  | false =>
    rw [aim_out h60 rfl rfl] at h
    split at h
    · cases h
    · unfold aimX at h
      split at h
      · cases h
      · rename_i u' hu
        injection h with h
        injection h with h _
        subst h
        exact ⟨_, _, hu⟩
theorem aarg_parsed {xs : List Int} {a : Adr} {w : World} {A1 A2 A3 : Option Addr} (hx : By xs) (h : adrL xs = .ok a) (r1 : Rds w w.heap.size A1 (pms a.u.ps)) (r2 : Rds w w.heap.size A2 (pms a.u.hs)) (r3 : Rds w w.heap.size A3 (pms a.ps)) : AArg w a A1 A2 A3 := by
  rw [adr_eq] at h
  by_cases hl : 1024 < xs.length
  · rw [if_pos hl] at h; cases h
  rw [if_neg hl] at h
  have hn := name_ok hx (by omega)
  cases hq : nameL xs with
  | error e => rw [hq] at h; cases h
  | ok q =>
    rw [hq] at h hn
    dsimp only at h hn
    unfold adr2 at h
    cases ha : aimL xs q.2 with
    | error e => rw [ha] at h; cases h
    | ok r =>
      rw [ha] at h
      dsimp only at h
      obtain ⟨u, c⟩ := r
      unfold adr3 at h
      cases hp : parsL (xs.drop c) with
      | error e => rw [hp] at h; cases h
      | ok l =>
        rw [hp] at h
        injection h with h
        subst h
        obtain ⟨i, j, hu⟩ := aim_uri ha
        have hD : By (xs.drop c) := fun x hx' => hx x (List.mem_of_mem_drop hx')
        have hDl : (xs.drop c).length ≤ 1024 := by rw [List.length_drop]; omega
        have h1 := pars_sz hD _ 0 [] l (Nat.zero_le _) (fun p hp => by cases hp) hp
        have h2 := pars_ok hD ((xs.drop c).length + 1) 0 [] (Nat.zero_le _) (Nat.zero_le _) (fun p hp => by cases hp)
        rw [show parsN (xs.drop c) ((xs.drop c).length + 1) 0 [] = parsL (xs.drop c) from rfl, hp] at h2
        exact ⟨hn.1, uarg_parsed (hx.sub (subL_sub xs i j)) hu r1 r2, fun p hp => ⟨(h1 p hp).1.1, (h1 p hp).1.2, by have := (h1 p hp).2.1; omega, by have := (h1 p hp).2.2; omega⟩, r3, by have := h2.1; show l.length ≤ 16000000; omega⟩
theorem adr_fine (s : ByteArray) {a : Adr} (h : adrL (byteL s) = .ok a) (w : World) (hC : CLS w) (hG : GM w) (hP : PT w) : Calls Tryz.prog 26 #[.string s] w fun e w' => ∃ A1 A2 A3 c1 c2 c3, e = .returned (.tuple #[aS a A1 A2 A3 c1 c2 c3, .int .i64 0, .int .u8 0]) ∧ Below w.heap.size w w' ∧ AArg w' a A1 A2 A3 := by
  refine (parseadr_any s w hC hG hP).mono ?_
  intro e w' hr
  rw [h] at hr
  obtain ⟨v1, v2, v3, rfl, h1, h2, h3⟩ := hr
  have hb := h1.bw
  obtain ⟨A1, c1, rfl, r1⟩ := h1.rdw
  obtain ⟨A2, c2, rfl, r2⟩ := h2.rdw
  obtain ⟨A3, c3, rfl, r3⟩ := h3.rdw
  exact ⟨A1, A2, A3, c1, c2, c3, rfl, hb, aarg_parsed (byteL_by s) h r1 r2 r3⟩
theorem radr_fine (s : ByteArray) {a : Adr} (h : adrL (byteL s) = .ok a) (w : World) : Calls Tryz.prog 27 #[.string s] w fun e w' => ∃ A1 A2 A3 c1 c2 c3, e = .returned (.tuple #[aS a A1 A2 A3 c1 c2 c3, .int .i64 0, .int .u8 0]) ∧ Below w.heap.size w w' ∧ AArg w' a A1 A2 A3 := by
  refine (rparseadr_any s w).mono ?_
  intro e w' hr
  rw [h] at hr
  obtain ⟨v1, v2, v3, rfl, h1, h2, h3⟩ := hr
  have hb := h1.bw
  obtain ⟨A1, c1, rfl, r1⟩ := h1.rdw
  obtain ⟨A2, c2, rfl, r2⟩ := h2.rdw
  obtain ⟨A3, c3, rfl, r3⟩ := h3.rdw
  exact ⟨A1, A2, A3, c1, c2, c3, rfl, hb, aarg_parsed (byteL_by s) h r1 r2 r3⟩
theorem radr_wrong (s : ByteArray) {n : Nat} {k : Int} (h : adrL (byteL s) = .error (n, k)) (w : World) : Calls Tryz.prog 27 #[.string s] w fun e w' => e = .returned (.tuple #[.agg #[.string ⟨#[]⟩, .string ⟨#[]⟩, .string ⟨#[]⟩, .string ⟨#[]⟩, .int .i64 0, .slice none 0 0, .slice none 0 0, .slice none 0 0], .int .i64 (n : Nat), .int .u8 k]) ∧ Below w.heap.size w w' := by
  refine (rparseadr_any s w).mono ?_
  intro e w' hr
  rw [h] at hr
  exact ⟨hr.1, hr.2.1⟩
set_option maxRecDepth 100000 in
set_option maxHeartbeats 2000000 in
theorem reads_any (s : ByteArray) (w : World) (hC : CLS w) (hG : GM w) (hP : PT w) : Calls Tryz.prog 5 #[.string s] w fun e w' => e = .returned (.bool true) ∧ Below w.heap.size w w' := by
  have HC := kd (fun w' (h : Below w.heap.size w w') => hC.below h)
  have HG := kd (fun w' (h : Below w.heap.size w w') => hG.below h)
  have HP := kd (fun w' (h : Below w.heap.size w w') => hP.below h)
  have AW := kd (fun w' (h : Below w.heap.size w w') => awake_any w' (hC.below h) (hG.below h) (hP.below h))
  clear hC hG hP
  go_enter Tryz.func5, Tryz.ntmps5
  cases hu : adrL (byteL s) with
  | error q =>
    obtain ⟨n, k⟩ := q
    have HU := kd hu
    have dk : (k == k) = true := by simp
    have dn : ((n : Int) == (n : Int)) = true := by simp
    clear hu
    go_wp2_with fail
    refine (adr_wrong s HU.out w (HC.out _ (Below.refl _ _)) (HG.out _ (Below.refl _ _)) (HP.out _ (Below.refl _ _))).mono ?_
    rintro e w1 ⟨rfl, hb1⟩
    have S1 := kd hb1
    clear hb1
    have RZ := kd (Row.new w1 38 [.string ⟨#[]⟩, .string ⟨#[]⟩, .string ⟨#[]⟩, .string ⟨#[]⟩, .int .i64 0, .slice none 0 0, .slice none 0 0, .slice none 0 0])
    go_wp2_with (with_reducible refine wpList_storeG rfl 38 (.tmp 3) (.tmp 12) rfl RZ.out [.string ⟨#[]⟩, .string ⟨#[]⟩, .string ⟨#[]⟩, .string ⟨#[]⟩, .int .i64 0, .slice none 0 0, .slice none 0 0, .slice none 0 0] rfl rfl (len8 _ _ _ _ _ _ _ _ _ _ _ _ _ _ _ _) (size8 _ _ _ _ _ _ _ _) (ad_one _ _ _ _ _) ?_)
    intro w2 R1 G_
    have S2 := kd (below_store (w := w1) (T := 38) (zs := [.string ⟨#[]⟩, .string ⟨#[]⟩, .string ⟨#[]⟩, .string ⟨#[]⟩, .int .i64 0, .slice none 0 0, .slice none 0 0, .slice none 0 0]) (Below.refl _ _) G_.out)
    clear RZ G_
    have B2 := kd (bthen S1.out S2.out)
    clear S1 S2
    go_wp2_with fail
    refine (radr_wrong s HU.out w2).mono ?_
    rintro e w3 ⟨rfl, hb3⟩
    have B3 := kd (bthen B2.out hb3)
    replace R1 := kd (R1.out.below hb3)
    clear hb3 B2 HU
    have RZ := kd (Row.new w3 38 [.string ⟨#[]⟩, .string ⟨#[]⟩, .string ⟨#[]⟩, .string ⟨#[]⟩, .int .i64 0, .slice none 0 0, .slice none 0 0, .slice none 0 0])
    go_wp2_with (with_reducible refine wpList_storeG rfl 38 (.tmp 6) (.tmp 18) rfl RZ.out [.string ⟨#[]⟩, .string ⟨#[]⟩, .string ⟨#[]⟩, .string ⟨#[]⟩, .int .i64 0, .slice none 0 0, .slice none 0 0, .slice none 0 0] rfl rfl (len8 _ _ _ _ _ _ _ _ _ _ _ _ _ _ _ _) (size8 _ _ _ _ _ _ _ _) (ad_one _ _ _ _ _) ?_)
    intro w4 R2 G_
    have S4 := kd (below_store (w := w3) (T := 38) (zs := [.string ⟨#[]⟩, .string ⟨#[]⟩, .string ⟨#[]⟩, .string ⟨#[]⟩, .int .i64 0, .slice none 0 0, .slice none 0 0, .slice none 0 0]) (Below.refl _ _) G_.out)
    clear RZ G_
    have B4 := kd (bthen B3.out S4.out)
    replace R1 := kd (R1.out.below S4.out)
    clear S4 B3
    generalize w1.heap.size = g1 at *
    generalize w3.heap.size = g2 at *
    have k0 : w4.cell? ⟨g1, 0, none⟩ = some (.string ⟨#[]⟩) := R1.out.cell 0
    have k1 : w4.cell? ⟨g1, 1, none⟩ = some (.string ⟨#[]⟩) := R1.out.cell 1
    have k2 : w4.cell? ⟨g1, 2, none⟩ = some (.string ⟨#[]⟩) := R1.out.cell 2
    have k3 : w4.cell? ⟨g1, 3, none⟩ = some (.string ⟨#[]⟩) := R1.out.cell 3
    have k4 : w4.cell? ⟨g1, 4, none⟩ = some (.int .i64 0) := R1.out.cell 4
    have k5 : w4.cell? ⟨g1, 5, none⟩ = some (.slice none 0 0) := R1.out.cell 5
    have k6 : w4.cell? ⟨g1, 6, none⟩ = some (.slice none 0 0) := R1.out.cell 6
    have k7 : w4.cell? ⟨g1, 7, none⟩ = some (.slice none 0 0) := R1.out.cell 7
    have m0 : w4.cell? ⟨g2, 0, none⟩ = some (.string ⟨#[]⟩) := R2.out.cell 0
    have m1 : w4.cell? ⟨g2, 1, none⟩ = some (.string ⟨#[]⟩) := R2.out.cell 1
    have m2 : w4.cell? ⟨g2, 2, none⟩ = some (.string ⟨#[]⟩) := R2.out.cell 2
    have m3 : w4.cell? ⟨g2, 3, none⟩ = some (.string ⟨#[]⟩) := R2.out.cell 3
    have m4 : w4.cell? ⟨g2, 4, none⟩ = some (.int .i64 0) := R2.out.cell 4
    have m5 : w4.cell? ⟨g2, 5, none⟩ = some (.slice none 0 0) := R2.out.cell 5
    have m6 : w4.cell? ⟨g2, 6, none⟩ = some (.slice none 0 0) := R2.out.cell 6
    have m7 : w4.cell? ⟨g2, 7, none⟩ = some (.slice none 0 0) := R2.out.cell 7
    go_wp2_with fail
    refine (samead_one AR0 none none none none none none 0 0 0 0 0 0 w4 (aarg_zero w4) (aarg_zero w4)).mono ?_
    rintro _ w5 ⟨rfl, hb5⟩
    have B5 := kd (bthen B4.out hb5)
    clear B4 hb5 k0 k1 k2 k3 k4 k5 k6 k7 m0 m1 m2 m3 m4 m5 m6 m7
    go_wp2_with fail
    refine (AW.out _ B5.out).mono ?_
    rintro _ w6 ⟨rfl, hb6⟩
    have B6 := kd (bthen B5.out hb6)
    clear hb6 B5
    go_wp2_with fail
    go_ret
    exact ⟨rfl, B6.out⟩
  | ok a =>
    have HU := kd hu
    clear hu
    go_wp2_with fail
    refine (adr_fine s HU.out w (HC.out _ (Below.refl _ _)) (HG.out _ (Below.refl _ _)) (HP.out _ (Below.refl _ _))).mono ?_
    rintro e w1 ⟨A1, A2, A3, c1, c2, c3, rfl, hb1, ua1⟩
    have S1 := kd hb1
    have UA := kd ua1
    clear hb1 ua1
    unfold aS
    have RZ := kd (Row.new w1 38 [.string ⟨#[]⟩, .string ⟨#[]⟩, .string ⟨#[]⟩, .string ⟨#[]⟩, .int .i64 0, .slice none 0 0, .slice none 0 0, .slice none 0 0])
    go_wp2_with (with_reducible refine wpList_storeG rfl 38 (.tmp 3) (.tmp 12) rfl RZ.out [.string (strOfNums a.ds), .string (strOfNums a.u.sc), .string (strOfNums a.u.us), .string (strOfNums a.u.ho), .int .i64 a.u.po, .slice A1 a.u.ps.length c1, .slice A2 a.u.hs.length c2, .slice A3 a.ps.length c3] rfl rfl (len8 _ _ _ _ _ _ _ _ _ _ _ _ _ _ _ _) (size8 _ _ _ _ _ _ _ _) (ad_one _ _ _ _ _) ?_)
    intro w2 R1 G_
    have S2 := kd (below_store (w := w1) (T := 38) (zs := [.string ⟨#[]⟩, .string ⟨#[]⟩, .string ⟨#[]⟩, .string ⟨#[]⟩, .int .i64 0, .slice none 0 0, .slice none 0 0, .slice none 0 0]) (Below.refl _ _) G_.out)
    clear RZ G_
    replace UA := kd (UA.out.step S2.out)
    have B2 := kd (bthen S1.out S2.out)
    clear S1 S2
    go_wp2_with fail
    refine (radr_fine s HU.out w2).mono ?_
    rintro e w3 ⟨D1, D2, D3, d1, d2, d3, rfl, hb3, ua3⟩
    have B3 := kd (bthen B2.out hb3)
    have UB := kd ua3
    replace UA := kd (UA.out.step hb3)
    replace R1 := kd (R1.out.below hb3)
    clear hb3 B2 HU ua3
    unfold aS
    have RZ := kd (Row.new w3 38 [.string ⟨#[]⟩, .string ⟨#[]⟩, .string ⟨#[]⟩, .string ⟨#[]⟩, .int .i64 0, .slice none 0 0, .slice none 0 0, .slice none 0 0])
    go_wp2_with (with_reducible refine wpList_storeG rfl 38 (.tmp 6) (.tmp 18) rfl RZ.out [.string (strOfNums a.ds), .string (strOfNums a.u.sc), .string (strOfNums a.u.us), .string (strOfNums a.u.ho), .int .i64 a.u.po, .slice D1 a.u.ps.length d1, .slice D2 a.u.hs.length d2, .slice D3 a.ps.length d3] rfl rfl (len8 _ _ _ _ _ _ _ _ _ _ _ _ _ _ _ _) (size8 _ _ _ _ _ _ _ _) (ad_one _ _ _ _ _) ?_)
    intro w4 R2 G_
    have S4 := kd (below_store (w := w3) (T := 38) (zs := [.string ⟨#[]⟩, .string ⟨#[]⟩, .string ⟨#[]⟩, .string ⟨#[]⟩, .int .i64 0, .slice none 0 0, .slice none 0 0, .slice none 0 0]) (Below.refl _ _) G_.out)
    clear RZ G_
    have B4 := kd (bthen B3.out S4.out)
    replace R1 := kd (R1.out.below S4.out)
    replace UA := kd (UA.out.step S4.out)
    replace UB := kd (UB.out.step S4.out)
    clear S4 B3
    generalize w1.heap.size = g1 at *
    generalize w3.heap.size = g2 at *
    have k0 : w4.cell? ⟨g1, 0, none⟩ = some (.string (strOfNums a.ds)) := R1.out.cell 0
    have k1 : w4.cell? ⟨g1, 1, none⟩ = some (.string (strOfNums a.u.sc)) := R1.out.cell 1
    have k2 : w4.cell? ⟨g1, 2, none⟩ = some (.string (strOfNums a.u.us)) := R1.out.cell 2
    have k3 : w4.cell? ⟨g1, 3, none⟩ = some (.string (strOfNums a.u.ho)) := R1.out.cell 3
    have k4 : w4.cell? ⟨g1, 4, none⟩ = some (.int .i64 a.u.po) := R1.out.cell 4
    have k5 : w4.cell? ⟨g1, 5, none⟩ = some (.slice A1 a.u.ps.length c1) := R1.out.cell 5
    have k6 : w4.cell? ⟨g1, 6, none⟩ = some (.slice A2 a.u.hs.length c2) := R1.out.cell 6
    have k7 : w4.cell? ⟨g1, 7, none⟩ = some (.slice A3 a.ps.length c3) := R1.out.cell 7
    have m0 : w4.cell? ⟨g2, 0, none⟩ = some (.string (strOfNums a.ds)) := R2.out.cell 0
    have m1 : w4.cell? ⟨g2, 1, none⟩ = some (.string (strOfNums a.u.sc)) := R2.out.cell 1
    have m2 : w4.cell? ⟨g2, 2, none⟩ = some (.string (strOfNums a.u.us)) := R2.out.cell 2
    have m3 : w4.cell? ⟨g2, 3, none⟩ = some (.string (strOfNums a.u.ho)) := R2.out.cell 3
    have m4 : w4.cell? ⟨g2, 4, none⟩ = some (.int .i64 a.u.po) := R2.out.cell 4
    have m5 : w4.cell? ⟨g2, 5, none⟩ = some (.slice D1 a.u.ps.length d1) := R2.out.cell 5
    have m6 : w4.cell? ⟨g2, 6, none⟩ = some (.slice D2 a.u.hs.length d2) := R2.out.cell 6
    have m7 : w4.cell? ⟨g2, 7, none⟩ = some (.slice D3 a.ps.length d3) := R2.out.cell 7
    go_wp2_with fail
    refine (samead_one a A1 A2 A3 D1 D2 D3 c1 c2 c3 d1 d2 d3 w4 UA.out UB.out).mono ?_
    rintro _ w5 ⟨rfl, hb5⟩
    have B5 := kd (bthen B4.out hb5)
    clear B4 hb5 k0 k1 k2 k3 k4 k5 k6 k7 m0 m1 m2 m3 m4 m5 m6 m7 R1 R2 UA UB
    go_wp2_with fail
    refine (AW.out _ B5.out).mono ?_
    rintro _ w6 ⟨rfl, hb6⟩
    have B6 := kd (bthen B5.out hb6)
    clear hb6 B5
    go_wp2_with fail
    go_ret
    exact ⟨rfl, B6.out⟩
end Go.Proofs.YthfonniieaiocaaGreatDoor
