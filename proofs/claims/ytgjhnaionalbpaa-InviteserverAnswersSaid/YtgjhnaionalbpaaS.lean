/- Copies, of the program and of the reference. -/
import Derived.Test.YtgjhnaionalbpaaO
import Derived.Test.YtgjhnaionalbpaaA
namespace Go.Proofs.Ytgjhnaionalbpaa
open Go.RowKit

def atK : Nat → Int
  | 0 => 0
  | 1 => 500
  | 2 => 1500
  | 3 => 3500
  | 4 => 7500
  | 5 => 11500
  | 6 => 15500
  | 7 => 19500
  | 8 => 23500
  | 9 => 27500
  | 10 => 31500
  | _ => 35500
def wK : Nat → Int
  | 0 => 500
  | 1 => 1000
  | 2 => 2000
  | _ => 4000
def cntTo (u : Int) : Nat → Int
  | 0 => 0
  | k + 1 => cntTo u k + if atK k ≤ u then 1 else 0
def copiesS (u : Int) : Int := cntTo u 11

theorem cnt_all {u : Int} : ∀ k : Nat, (∀ j, j < k → atK j ≤ u) → cntTo u k = k
  | 0, _ => rfl
  | k + 1, h => by
    rw [cntTo, cnt_all k (fun j hj => h j (by omega)), if_pos (h k (by omega))]
    push_cast; rfl
theorem atK_mono {k : Nat} (h : k < 11) : atK k < atK (k + 1) := by
  match k, h with
  | 0, _ | 1, _ | 2, _ | 3, _ | 4, _ | 5, _ | 6, _ | 7, _ | 8, _ | 9, _ | 10, _ => decide
theorem atK_le {u : Int} {k : Nat} (h2 : u < atK k) : ∀ d : Nat, k + d < 11 → u < atK (k + d)
  | 0, _ => h2
  | d + 1, h => by
    have := atK_le h2 d (by omega)
    have := atK_mono (k := k + d) (by omega)
    rw [← Nat.add_assoc]; omega
theorem cnt_rest {u : Int} {k : Nat} (h2 : u < atK k) : ∀ d : Nat, k + d ≤ 11 → cntTo u (k + d) = cntTo u k
  | 0, _ => rfl
  | d + 1, h => by
    rw [← Nat.add_assoc, cntTo, cnt_rest h2 d (by omega), if_neg (by have := atK_le h2 d (by omega); omega), Int.add_zero]
theorem copies_is {u : Int} {k : Nat} (hk : k ≤ 11) (h1 : ∀ j, j < k → atK j ≤ u) (h2 : k < 11 → u < atK k) : copiesS u = k := by
  unfold copiesS
  by_cases h : k < 11
  · have := cnt_rest (h2 h) (11 - k) (by omega)
    rw [show k + (11 - k) = 11 by omega] at this
    rw [this, cnt_all k h1]
  · obtain rfl : k = 11 := by omega
    exact cnt_all 11 h1

theorem atK_next {k : Nat} (h : k < 11) : atK k + wK k = atK (k + 1) := by
  match k, h with
  | 0, _ | 1, _ | 2, _ | 3, _ | 4, _ | 5, _ | 6, _ | 7, _ | 8, _ | 9, _ | 10, _ => decide
theorem wK_small {k : Nat} (h : k < 11) (h2 : 2 * wK k ≤ 4000) : 2 * wK k = wK (k + 1) := by
  match k, h with
  | 0, _ | 1, _ | 2, _ => rfl
  | 3, _ | 4, _ | 5, _ | 6, _ | 7, _ | 8, _ | 9, _ | 10, _ => simp [wK] at h2
theorem wK_big {k : Nat} (h : k < 11) (h2 : ¬ 2 * wK k ≤ 4000) : (4000 : Int) = wK (k + 1) := by
  match k, h with
  | 0, _ | 1, _ | 2, _ => simp [wK] at h2
  | 3, _ | 4, _ | 5, _ | 6, _ | 7, _ | 8, _ | 9, _ | 10, _ => rfl
theorem atK_range {k : Nat} (h : k < 11) : 0 ≤ atK k ∧ atK k < 32000 := by
  match k, h with
  | 0, _ | 1, _ | 2, _ | 3, _ | 4, _ | 5, _ | 6, _ | 7, _ | 8, _ | 9, _ | 10, _ => decide
theorem wK_range {k : Nat} (h : k < 11) : 0 ≤ wK k ∧ wK k ≤ 4000 := by
  match k, h with
  | 0, _ | 1, _ | 2, _ | 3, _ | 4, _ | 5, _ | 6, _ | 7, _ | 8, _ | 9, _ | 10, _ => decide

def CRel (u : Int) (n a w : Value) : Prop := ∃ k : Nat, k ≤ 11 ∧ n = .int .i64 k ∧ a = .int .i64 (atK k) ∧ w = .int .i64 (wK k) ∧ ∀ j, j < k → atK j ≤ u
theorem CRel.next {u : Int} {k : Nat} (hk : k < 11) (h : ∀ j, j < k → atK j ≤ u) (hu : atK k ≤ u) {n x y : Int} (hn : n = (k : Int) + 1) (hx : x = atK (k + 1)) (hy : y = wK (k + 1)) : CRel u (.int .i64 n) (.int .i64 x) (.int .i64 y) := by
  subst hn hx hy
  refine ⟨k + 1, by omega, by simp, rfl, rfl, fun j hj => ?_⟩
  rcases Nat.lt_succ_iff_lt_or_eq.1 hj with h1 | rfl
  · exact h j h1
  · exact hu

set_option maxHeartbeats 1000000 in
theorem copies_any (u : Int) (w : World) : Calls Try.prog 22 #[.int .i64 u] w fun e w' => e = .returned (.int .i64 (copiesS u)) ∧ w = w' := by
  go_enter Try.func22, Try.ntmps22
  go_wp2
  go_loop [3, 4, 5] (fun n a x => CRel u n a x) (fun n _ _ => 11 - (intOf n).toNat)
  case atStart => exact ⟨0, by omega, rfl, rfl, rfl, fun j hj => absurd hj (by omega)⟩
  case round =>
    obtain ⟨k, hk, rfl, rfl, rfl, hj⟩ := hrel
    have HJ := Lib.hid hj; clear hj
    by_cases h7 : k < 11
    · have ha := atK_range h7
      have hw := wK_range h7
      obtain ⟨ha0, ha1⟩ := ha
      obtain ⟨hw0, hw1⟩ := hw
      by_cases hu : atK k ≤ u
      · by_cases hb : 2 * wK k ≤ 4000
        · have HR := Lib.hid (CRel.next h7 HJ.out hu rfl (atK_next h7) (wK_small h7 hb))
          go_wp2
          go_round
          case rel => exact HR.out
          case measure => simp [intOf]; omega
        · have HR := Lib.hid (CRel.next h7 HJ.out hu rfl (atK_next h7) (wK_big h7 hb))
          have hb' : 4000 < 2 * wK k := by omega
          clear hb
          go_wp2
          go_round
          case rel => exact HR.out
          case measure => simp [intOf]; omega
      · have HE := Lib.hid (copies_is hk HJ.out (fun _ => by omega))
        have hd : decide (atK k ≤ u) = false := by simpa using hu
        go_wp2
        go_ret
        exact ⟨ret_int HE.out.symm, rfl⟩
    · obtain rfl : k = 11 := by omega
      have HE := Lib.hid (copies_is hk HJ.out (fun h => absurd h (by omega)))
      simp only [atK, wK]
      by_cases hu : (35500 : Int) ≤ u
      · go_wp2
        go_ret
        exact ⟨ret_int HE.out.symm, rfl⟩
      · have hd : decide ((35500 : Int) ≤ u) = false := by simpa using hu
        go_wp2
        go_ret
        exact ⟨ret_int HE.out.symm, rfl⟩
end Go.Proofs.Ytgjhnaionalbpaa
