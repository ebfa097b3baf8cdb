/- Contracts: the reference's letter, digit, contains, In. -/
import Derived.Test.YthfonniieaiocaaGreatDoorUe
set_option linter.unusedVariables false
set_option linter.unusedSimpArgs false
set_option maxRecDepth 100000
namespace Go.Proofs.YthfonniieaiocaaGreatDoor
open Go.RowKit

theorem rletter_any (c : Int) (w : World) : Calls Tryz.prog 94 #[.int .u8 c] w fun e w' => e = .returned (.bool (isLet c)) ∧ w = w' := by
  unfold isLet
  cases d1 : decide (97 ≤ c) <;> cases d2 : decide (c ≤ 122) <;> cases d3 : decide (65 ≤ c) <;> cases d4 : decide (c ≤ 90)
  all_goals
    go_enter Tryz.func94, Tryz.ntmps94
    go_wp2
    go_ret
    exact ⟨rfl, rfl⟩
theorem rdigit_any (c : Int) (w : World) : Calls Tryz.prog 95 #[.int .u8 c] w fun e w' => e = .returned (.bool (isDig c)) ∧ w = w' := by
  unfold isDig
  cases d1 : decide (48 ≤ c) <;> cases d2 : decide (c ≤ 57)
  all_goals
    go_enter Tryz.func95, Tryz.ntmps95
    go_wp2
    go_ret
    exact ⟨rfl, rfl⟩
theorem rcontains_any (s : ByteArray) (c : Int) (w : World) (hs : s.size ≤ 4000000) : Calls Tryz.prog 96 #[.string s, .int .u8 c] w fun e w' => e = .returned (.bool ((byteL s).contains c)) ∧ w = w' := by
  have HL := kd (byteL_len s)
  generalize hX : byteL s = X at *
  have HX := kd hX
  obtain ⟨R, hR⟩ : ∃ R, X.contains c = R := ⟨_, rfl⟩
  rw [hR]
  have HR := kd hR
  clear hX hR
  go_enter Tryz.func96, Tryz.ntmps96
  go_wp2_with fail
  go_loopw [5] (fun v wr => ∃ k : Nat, k ≤ s.size ∧ v = .int .i64 k ∧ w = wr ∧ Hid (R = (X.drop k).contains c)) (fun v _ => s.size - (intOf v).toNat)
  case atStart => exact ⟨0, Nat.zero_le _, rfl, rfl, kd HR.out.symm⟩
  case round =>
    obtain ⟨k, hk, rfl, rfl, RK⟩ := hrel
    by_cases hlt : k < s.size
    · have hd : decide ((k : Int) < (s.size : Int)) = true := by simp; omega
      have d1 := fun w => idx_str s (i := k) hlt (z := (k : Int)) rfl w
      rw [HX.out] at d1
      have E := kd (show X.drop k = X.getD k 0 :: X.drop (k + 1) by
        have hl : k < X.length := by rw [HL.out]; exact hlt
        rw [List.drop_eq_getElem_cons hl, List.getD_eq_getElem?_getD, List.getElem?_eq_getElem hl]; rfl)
      generalize X.getD k 0 = x at *
      cases he : (x == c) with
      | true =>
        have F := kd (show R = true by rw [RK.out, E.out, List.contains_cons, show (c == x) = true by rw [beq_iff_eq] at he ⊢; exact he.symm]; rfl)
        clear RK E
        go_wp2_with fail
        go_ret
        exact ⟨by rw [F.out]; rfl, rfl⟩
      | false =>
        have F := kd (show R = (X.drop (k + 1)).contains c by
          rw [RK.out, E.out, List.contains_cons, show (c == x) = false by rw [beq_eq_false_iff_ne] at he ⊢; exact fun h => he h.symm]; rfl)
        clear RK E
        go_wp2_with fail
        go_roundw
        case rel => exact ⟨k + 1, by omega, by go_num, trivial, F⟩
        case measure => simp [intOf]; omega
    · obtain rfl : k = s.size := by omega
      have hd : decide ((s.size : Int) < (s.size : Int)) = false := by simp
      have F := kd (show R = false by rw [RK.out, List.drop_eq_nil_of_le (by rw [HL.out]; exact Nat.le_refl _)]; rfl)
      clear RK
      go_wp2_with fail
      go_ret
      exact ⟨by rw [F.out]; rfl, rfl⟩
set_option maxHeartbeats 1000000 in
theorem rin_any (c k : Int) (w : World) : Calls Tryz.prog 30 #[.int .u8 c, .int .i64 k] w fun e w' => e = .returned (.bool (inC k c)) ∧ w = w' := by
  have M := (fun w => rcontains_any ⟨#[45, 95, 46, 33, 126, 42, 39, 40, 41]⟩ c w (by decide))
  have C0 := (fun w => rcontains_any ⟨#[38, 61, 43, 36, 44, 59, 63, 47]⟩ c w (by decide))
  have C1 := (fun w => rcontains_any ⟨#[91, 93, 47, 58, 38, 43, 36]⟩ c w (by decide))
  have C2 := (fun w => rcontains_any ⟨#[91, 93, 47, 63, 58, 43, 36]⟩ c w (by decide))
  rw [show byteL ⟨#[45, 95, 46, 33, 126, 42, 39, 40, 41]⟩ = MARKS by kernel_rfl] at M
  rw [show byteL ⟨#[38, 61, 43, 36, 44, 59, 63, 47]⟩ = clsL 0 by kernel_rfl] at C0
  rw [show byteL ⟨#[91, 93, 47, 58, 38, 43, 36]⟩ = clsL 1 by kernel_rfl] at C1
  rw [show byteL ⟨#[91, 93, 47, 63, 58, 43, 36]⟩ = clsL 2 by kernel_rfl] at C2
  have HM := kd M; have H0 := kd C0; have H1 := kd C1; have H2 := kd C2
  have LT := kd (rletter_any c); have DG := kd (rdigit_any c)
  have E := kd (show inC k c = ((isLet c || (isDig c || MARKS.contains c)) || (clsL k).contains c) from rfl)
  obtain ⟨R, hR⟩ : ∃ R, inC k c = R := ⟨_, rfl⟩
  rw [hR] at E ⊢
  clear M C0 C1 C2 hR
  generalize isLet c = b1 at *
  generalize isDig c = b2 at *
  generalize MARKS.contains c = b3 at *
  go_enter Tryz.func30, Tryz.ntmps30
  go_wp2_with fail
  refine (LT.out _).mono ?_
  rintro _ _ ⟨rfl, rfl⟩
  cases b1 with
  | true =>
    have F := kd (show R = true by rw [E.out]; rfl)
    go_wp2_with fail
    go_ret
    exact ⟨by rw [F.out]; rfl, rfl⟩
  | false =>
  go_wp2_with fail
  refine (DG.out _).mono ?_
  rintro _ _ ⟨rfl, rfl⟩
  cases b2 with
  | true =>
    have F := kd (show R = true by rw [E.out]; rfl)
    go_wp2_with fail
    go_ret
    exact ⟨by rw [F.out]; rfl, rfl⟩
  | false =>
  go_wp2_with fail
  refine (HM.out _).mono ?_
  rintro _ _ ⟨rfl, rfl⟩
  cases b3 with
  | true =>
    have F := kd (show R = true by rw [E.out]; rfl)
    go_wp2_with fail
    go_ret
    exact ⟨by rw [F.out]; rfl, rfl⟩
  | false =>
  have E2 := kd (show R = (clsL k).contains c by rw [E.out]; rfl)
  clear E HM LT DG
  by_cases k0 : k = 0
  · subst k0
    generalize (clsL 0).contains c = bb at *
    go_wp2_with fail
    refine (H0.out _).mono ?_
    rintro _ _ ⟨rfl, rfl⟩
    go_wp2_with fail
    go_ret
    exact ⟨by rw [E2.out]; rfl, rfl⟩
  have q0 : (k == 0) = false := by simpa using k0
  by_cases k1 : k = 1
  · subst k1
    generalize (clsL 1).contains c = bb at *
    go_wp2_with fail
    refine (H1.out _).mono ?_
    rintro _ _ ⟨rfl, rfl⟩
    go_wp2_with fail
    go_ret
    exact ⟨by rw [E2.out]; rfl, rfl⟩
  have q1 : (k == 1) = false := by simpa using k1
  by_cases k2 : k = 2
  · subst k2
    generalize (clsL 2).contains c = bb at *
    go_wp2_with fail
    refine (H2.out _).mono ?_
    rintro _ _ ⟨rfl, rfl⟩
    go_wp2_with fail
    go_ret
    exact ⟨by rw [E2.out]; rfl, rfl⟩
  have q2 : (k == 2) = false := by simpa using k2
  have F := kd (show R = false by rw [E2.out]; unfold clsL; rw [if_neg k0, if_neg k1, if_neg k2]; rfl)
  go_wp2_with fail
  go_ret
  exact ⟨by rw [F.out]; rfl, rfl⟩
end Go.Proofs.YthfonniieaiocaaGreatDoor
