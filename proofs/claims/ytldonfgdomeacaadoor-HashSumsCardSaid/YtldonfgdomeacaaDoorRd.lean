/- The contracts of the reference's digit and Unhex. -/
import Derived.Test.YtldonfgdomeacaaDoorRc
namespace Go.Proofs.YtldonfgdomeacaaDoor
open Go.RowKit

def ALLB : ByteArray := ⟨#[48, 49, 50, 51, 52, 53, 54, 55, 56, 57, 97, 98, 99, 100, 101, 102, 65, 66, 67, 68, 69, 70]⟩
def allL : List Int := [48, 49, 50, 51, 52, 53, 54, 55, 56, 57, 97, 98, 99, 100, 101, 102, 65, 66, 67, 68, 69, 70]
def rdig (c : Int) : Int := if digOk c = true then digV c else -1
theorem rdig_at : ∀ k : Fin 22, rdig (allL.getD k.val 0) = if k.val < 16 then (k.val : Int) else (k.val : Int) - 6 := by decide +kernel
theorem all_has : ∀ c : Fin 256, digOk (c.val : Int) = true → ∃ j : Fin 22, allL.getD j.val 0 = (c.val : Int) := by decide +kernel
theorem rdig_none {c : Int} (h0 : 0 ≤ c) (h1 : c < 256) (h : ∀ j, j < 22 → allL.getD j 0 ≠ c) : rdig c = -1 := by
  unfold rdig
  rw [if_neg]
  intro hd
  obtain ⟨k, rfl⟩ := Int.eq_ofNat_of_zero_le h0
  obtain ⟨j, hj⟩ := all_has ⟨k, by omega⟩ hd
  exact h j.val j.isLt hj
theorem all_idx {k : Nat} (hk : k < 22) (w : World) : (Instr.index 9 (.string ⟨#[48, 49, 50, 51, 52, 53, 54, 55, 56, 57, 97, 98, 99, 100, 101, 102, 65, 66, 67, 68, 69, 70]⟩) (.int .i64 k)).run Tryd.prog w = .ok (.int .u8 (allL.getD k 0)) w :=
  idx_str ⟨#[48, 49, 50, 51, 52, 53, 54, 55, 56, 57, 97, 98, 99, 100, 101, 102, 65, 66, 67, 68, 69, 70]⟩ (i := k) hk rfl w
set_option maxRecDepth 100000 in
theorem refdigit_any (c : Int) (w : World) (h0 : 0 ≤ c) (h1 : c < 256) : Calls Tryd.prog 30 #[.int .u8 c] w fun e w' => e = .returned (.int .i64 (rdig c)) ∧ w = w' := by
  go_enter Tryd.func30, Tryd.ntmps30
  go_wp2_with fail
  go_loop [4] (fun v => ∃ k : Nat, k ≤ 22 ∧ v = .int .i64 k ∧ Hid (∀ j, j < k → allL.getD j 0 ≠ c)) (fun v => 22 - (intOf v).toNat)
  case atStart => exact ⟨0, by omega, rfl, Lib.hid fun j hj => absurd hj (by omega)⟩
  case round =>
    obtain ⟨k, hk, rfl, H⟩ := hrel
    by_cases hlt : k < 22
    · have d1 := fun w => all_idx hlt w
      have RA := Lib.hid (rdig_at ⟨k, hlt⟩)
      dsimp only at RA
      have HN := Lib.hid (show allL.getD k 0 ≠ c → ∀ j, j < k + 1 → allL.getD j 0 ≠ c from fun hne j hj => by
        rcases (show j < k ∨ j = k by omega) with h | rfl
        · exact H.out j h
        · exact hne)
      have hd : decide ((k : Int) < 22) = true := by simp; omega
      generalize allL.getD k 0 = y at *
      by_cases hy : y = c
      · subst hy
        by_cases h16 : k < 16
        · have hd2 : decide ((k : Int) < 16) = true := by simp; omega
          go_wp2_with fail
          go_ret
          exact ⟨by rw [RA.out, if_pos h16]; rfl, rfl⟩
        · have hd2 : decide ((k : Int) < 16) = false := by simp; omega
          go_wp2_with fail
          go_ret
          exact ⟨by rw [RA.out, if_neg h16]; rfl, rfl⟩
      · have hb : (y == c) = false := by simpa using hy
        go_wp2_with fail
        go_round
        case rel => exact ⟨k + 1, by omega, by go_num, Lib.hid (HN.out hy)⟩
        case measure => simp [intOf]; omega
    · obtain rfl : k = 22 := by omega
      have RN := Lib.hid (rdig_none h0 h1 H.out)
      go_wp2_with fail
      go_ret
      exact ⟨by rw [RN.out]; rfl, rfl⟩
end Go.Proofs.YtldonfgdomeacaaDoor
