/- Plain law: hosts of numbers, of groups and of labels. And what stands behind it. -/
import Derived.Test.YthfonniieaiocaaGreatDoorVc
import Derived.Test.YthfonniieaiocaaGreatDoorYa
import Derived.BigQuiet
set_option linter.unusedVariables false
set_option linter.unusedSimpArgs false
namespace Go.Proofs.YthfonniieaiocaaGreatDoor
open Go.RowKit

theorem dec_size {n : Int} (h0 : 0 ≤ n) (h1 : n ≤ 9223372036854775807) : (decL n).length ≤ 21 := by
  unfold decL bl
  rw [List.length_map]
  exact Lib.itoa_length_le n (by omega) h1
theorem tens_at : ∀ m : Nat, m < 10 → (⟨#[48, 49, 50, 51, 52, 53, 54, 55, 56, 57]⟩ : ByteArray).extract m (m + 1) = strOfNums [48 + (m : Int)] := by decide +kernel
set_option maxRecDepth 100000 in
theorem rdecimal_any : ∀ (n : Nat) (w : World), n ≤ 9223372036854775806 → Calls Tryz.prog 105 #[.int .i64 n] w fun e w' => e = .returned (.string (strOfNums (decL n))) ∧ Below w.heap.size w w' := by
  intro n
  induction n using Nat.strongRecOn with
  | _ n ih =>
  intro w hn
  by_cases h : n < 10
  · have E := kd (dd_small h)
    have T := kd (tens_at n h)
    have d1 : decide (n < 10) = true := by simp [h]
    have d2 : decide ((n : Int) < 10) = true := by simp; omega
    clear ih
    go_enter Tryz.func105, Tryz.ntmps105
    go_wp2_with fail
    go_ret
    exact ⟨by rw [E.out, ← T.out]; rfl, Below.refl _ _⟩
  · obtain ⟨m, hm⟩ : ∃ m, n % 10 = m := ⟨_, rfl⟩
    obtain ⟨q, hq⟩ : ∃ q, n / 10 = q := ⟨_, rfl⟩
    have ml : m < 10 := by omega
    have E := kd (dd_big h)
    rw [hm, hq] at E
    have T := kd (tens_at m ml)
    have IH := kd (fun w => ih q (by omega) w (by omega))
    have LQ := kd (show (strOfNums (decL (q : Int))).size ≤ 21 by rw [num_size]; exact dec_size (by omega) (by omega))
    have d1 : decide (n < 10) = false := by simp; omega
    have d2 : decide ((n : Int) < 10) = false := by simp; omega
    have mm : (n : Int) % 10 = (m : Int) := by omega
    have md : (n : Int) / 10 = (q : Int) := by omega
    have HM := kd hm; have HQ := kd hq
    clear ih hm hq h
    have DS : ∀ w, (Op.stringOp .add (strOfNums (decL (q : Int))) ((⟨#[48, 49, 50, 51, 52, 53, 54, 55, 56, 57]⟩ : ByteArray).extract m (m + 1))).run Tryz.prog w = .ok (.string (strOfNums (decL (n : Int)))) w := fun w => by
      rw [run_string_add_sum (P := Tryz.prog) w _ _ (by have h5 := LQ.out; have h6 : (strOfNums [48 + (m : Int)]).size = 1 := (num_size _); rw [T.out]; omega), T.out, str_app, E.out]
    go_enter Tryz.func105, Tryz.ntmps105
    go_wp2_with fail
    refine region_bw (by kernel_rfl) (by kernel_rfl) ?_
    iterate 2 go_big_quiet_step (fail)
    go_big_quiet_step (exact calls_bw (IH.out _))
    iterate 8 go_big_quiet_step (fail)
    refine wpQuiet_nil ?_
    rintro _ ⟨x, rfl⟩
    go_wp2_with fail
    go_ret
    exact ⟨rfl, x.h⟩
end Go.Proofs.YthfonniieaiocaaGreatDoor
