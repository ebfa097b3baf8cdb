/- Copies, of the program and of the reference. -/
import Derived.Test.YtdooohanhekniaaO
import Derived.Test.YtdooohanhekniaaA
namespace Go.Proofs.Ytdooohanhekniaa
open Go.RowKit

def atK : Nat → Int
  | 0 => 0 | 1 => 500 | 2 => 1500 | 3 => 3500 | 4 => 7500 | 5 => 15500 | 6 => 31500 | _ => 63500
def wK : Nat → Int
  | 0 => 500 | 1 => 1000 | 2 => 2000 | 3 => 4000 | 4 => 8000 | 5 => 16000 | _ => 32000
def cntTo (u : Int) : Nat → Int
  | 0 => 0
  | k + 1 => cntTo u k + if atK k ≤ u then 1 else 0
def copiesS (u : Int) : Int := cntTo u 7

theorem copies_is {u : Int} {k : Nat} (hk : k ≤ 7) (h1 : ∀ j, j < k → atK j ≤ u) (h2 : k < 7 → u < atK k) : copiesS u = k := by
  have g : ∀ j, j < k → atK j ≤ u := h1
  match k, hk with
  | 0, _ => have := h2 (by omega); simp only [atK] at this; simp only [copiesS, cntTo, atK]; repeat' split
            all_goals omega
  | 1, _ => have := h2 (by omega); have a0 := g 0 (by omega); simp only [atK] at this a0; simp only [copiesS, cntTo, atK]; repeat' split
            all_goals omega
  | 2, _ => have := h2 (by omega); have a0 := g 1 (by omega); simp only [atK] at this a0; simp only [copiesS, cntTo, atK]; repeat' split
            all_goals omega
  | 3, _ => have := h2 (by omega); have a0 := g 2 (by omega); simp only [atK] at this a0; simp only [copiesS, cntTo, atK]; repeat' split
            all_goals omega
  | 4, _ => have := h2 (by omega); have a0 := g 3 (by omega); simp only [atK] at this a0; simp only [copiesS, cntTo, atK]; repeat' split
            all_goals omega
  | 5, _ => have := h2 (by omega); have a0 := g 4 (by omega); simp only [atK] at this a0; simp only [copiesS, cntTo, atK]; repeat' split
            all_goals omega
  | 6, _ => have := h2 (by omega); have a0 := g 5 (by omega); simp only [atK] at this a0; simp only [copiesS, cntTo, atK]; repeat' split
            all_goals omega
  | 7, _ => have a0 := g 6 (by omega); simp only [atK] at a0; simp only [copiesS, cntTo, atK]; repeat' split
            all_goals omega

theorem atK_next {k : Nat} (h : k < 7) : atK k + wK k = atK (k + 1) := by
  match k, h with
  | 0, _ | 1, _ | 2, _ | 3, _ | 4, _ | 5, _ | 6, _ => decide
theorem wK_small {k : Nat} (h : k < 7) (h2 : 2 * wK k ≤ 32000) : 2 * wK k = wK (k + 1) := by
  match k, h with
  | 0, _ | 1, _ | 2, _ | 3, _ | 4, _ | 5, _ => rfl
  | 6, _ => simp [wK] at h2
theorem wK_big {k : Nat} (h : k < 7) (h2 : ¬ 2 * wK k ≤ 32000) : (32000 : Int) = wK (k + 1) := by
  match k, h with
  | 0, _ | 1, _ | 2, _ | 3, _ | 4, _ | 5, _ => simp [wK] at h2
  | 6, _ => rfl
theorem atK_range {k : Nat} (h : k < 7) : 0 ≤ atK k ∧ atK k < 32000 := by
  match k, h with
  | 0, _ | 1, _ | 2, _ | 3, _ | 4, _ | 5, _ | 6, _ => decide
theorem wK_range {k : Nat} (h : k < 7) : 0 ≤ wK k ∧ wK k ≤ 32000 := by
  match k, h with
  | 0, _ | 1, _ | 2, _ | 3, _ | 4, _ | 5, _ | 6, _ => decide

def CRel (u : Int) (n a w : Value) : Prop := ∃ k : Nat, k ≤ 7 ∧ n = .int .i64 k ∧ a = .int .i64 (atK k) ∧ w = .int .i64 (wK k) ∧ ∀ j, j < k → atK j ≤ u
theorem CRel.next {u : Int} {k : Nat} (hk : k < 7) (h : ∀ j, j < k → atK j ≤ u) (hu : atK k ≤ u) {n x y : Int} (hn : n = (k : Int) + 1) (hx : x = atK (k + 1)) (hy : y = wK (k + 1)) : CRel u (.int .i64 n) (.int .i64 x) (.int .i64 y) := by
  subst hn hx hy
  refine ⟨k + 1, by omega, by simp, rfl, rfl, fun j hj => ?_⟩
  rcases Nat.lt_succ_iff_lt_or_eq.1 hj with h1 | rfl
  · exact h j h1
  · exact hu

set_option maxHeartbeats 1000000 in
theorem copies_any (u : Int) (w : World) : Calls Try.prog 20 #[.int .i64 u] w fun e w' => e = .returned (.int .i64 (copiesS u)) ∧ w = w' := by
  go_enter Try.func20, Try.ntmps20
  go_wp2
  go_loop [3, 4, 5] (fun n a x => CRel u n a x) (fun n _ _ => 7 - (intOf n).toNat)
  case atStart => exact ⟨0, by omega, rfl, rfl, rfl, fun j hj => absurd hj (by omega)⟩
  case round =>
    obtain ⟨k, hk, rfl, rfl, rfl, hj⟩ := hrel
    have HJ := Lib.hid hj; clear hj
    by_cases h7 : k < 7
    · have ha := atK_range h7
      have hw := wK_range h7
      obtain ⟨ha0, ha1⟩ := ha
      obtain ⟨hw0, hw1⟩ := hw
      by_cases hu : atK k ≤ u
      · by_cases hb : 2 * wK k ≤ 32000
        · have HR := Lib.hid (CRel.next h7 HJ.out hu rfl (atK_next h7) (wK_small h7 hb))
          go_wp2
          go_round
          case rel => exact HR.out
          case measure => simp [intOf]; omega
        · have HR := Lib.hid (CRel.next h7 HJ.out hu rfl (atK_next h7) (wK_big h7 hb))
          have hb' : 32000 < 2 * wK k := by omega
          clear hb
          go_wp2
          go_round
          case rel => exact HR.out
          case measure => simp [intOf]; omega
      · have HE := Lib.hid (copies_is hk HJ.out (fun _ => by omega))
        have hd : decide (atK k ≤ u) = false := by simpa using hu
        go_wp2
        go_ret
        exact ⟨ret_int HE.out.symm, rfl⟩
    · obtain rfl : k = 7 := by omega
      have HE := Lib.hid (copies_is hk HJ.out (fun h => absurd h (by omega)))
      simp only [atK, wK]
      by_cases hu : (63500 : Int) ≤ u
      · go_wp2
        go_ret
        exact ⟨ret_int HE.out.symm, rfl⟩
      · have hd : decide ((63500 : Int) ≤ u) = false := by simpa using hu
        go_wp2
        go_ret
        exact ⟨ret_int HE.out.symm, rfl⟩
end Go.Proofs.Ytdooohanhekniaa
