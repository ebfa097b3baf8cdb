/- The contract of May, of the program and of the reference. -/
import Derived.Test.YtdooohanhekniaaA
namespace Go.Proofs.Ytdooohanhekniaa
open Go.RowKit

def wOk (x : Int) : Bool := x == 500 || x == 1000 || x == 2000 || x == 4000 || x == 8000 || x == 16000 || x == 32000
def mayB (s wt c : Int) : Bool :=
  if s = 1 then c == 0 && wOk wt
  else if s = 3 then wt == 0 && c == 0
  else if s = 4 then wt == 0 && decide (200 ≤ c ∧ c ≤ 299)
  else if s = 5 then wt == 0 && decide (300 ≤ c ∧ c ≤ 699)
  else if s = 7 then wt == 0 && (c == 0 || decide (200 ≤ c ∧ c ≤ 699))
  else false

def MayPost (s wt c : Int) (w : World) (e : Ending) (w' : World) : Prop := e = .returned (.bool (mayB s wt c)) ∧ w' = w.alloc (.cells #[.int .u8 s, .int .i64 wt, .int .i64 c] 26)

def waitAt : Nat → Int
  | 0 => 500 | 1 => 1000 | 2 => 2000 | 3 => 4000 | 4 => 8000 | 5 => 16000 | 6 => 32000 | _ => 64000

/-- At the head of a round: none of the intervals before fits. -/
def MayRel (wt c : Int) (t : Value) : Prop := ∃ k : Nat, k ≤ 7 ∧ t = .int .i64 (waitAt k) ∧ ∀ j : Nat, j < k → ¬ (wt = waitAt j ∧ c = 0)

theorem MayRel.next {wt c : Int} {k : Nat} (hk : k < 7) (h : ∀ j : Nat, j < k → ¬ (wt = waitAt j ∧ c = 0)) (hn : ¬ (wt = waitAt k ∧ c = 0)) {x : Int} (hx : x = waitAt (k + 1)) : MayRel wt c (.int .i64 x) := by
  subst hx
  refine ⟨k + 1, by omega, rfl, fun j hj => ?_⟩
  rcases Nat.lt_succ_iff_lt_or_eq.1 hj with h1 | rfl
  · exact h j h1
  · exact hn

theorem mayB_none {wt c : Int} (h : ∀ j : Nat, j < 7 → ¬ (wt = waitAt j ∧ c = 0)) : mayB 1 wt c = false := by
  have h0 := h 0 (by omega)
  have h1 := h 1 (by omega)
  have h2 := h 2 (by omega)
  have h3 := h 3 (by omega)
  have h4 := h 4 (by omega)
  have h5 := h 5 (by omega)
  have h6 := h 6 (by omega)
  simp only [waitAt] at h0 h1 h2 h3 h4 h5 h6
  simp only [mayB, wOk, if_true, Bool.and_eq_false_iff, beq_eq_false_iff_ne, Bool.or_eq_false_iff]
  omega

theorem mayB_wait {c : Int} {k : Nat} (hk : k < 7) (hc : c = 0) : mayB 1 (waitAt k) c = true := by
  subst hc
  match k, hk with
  | 0, _ | 1, _ | 2, _ | 3, _ | 4, _ | 5, _ | 6, _ => decide

set_option maxHeartbeats 1000000 in
theorem may_1 (wt c : Int) (w : World) : Calls Try.prog 14 #[.agg #[.int .u8 1, .int .i64 wt, .int .i64 c]] w (MayPost 1 wt c w) := by
  go_enter Try.func14, Try.ntmps14
  go_wp2
  go_loop [3] (fun t => MayRel wt c t) (fun t => 64000 - (intOf t).toNat)
  case atStart => exact ⟨0, by omega, rfl, fun j hj => absurd hj (by omega)⟩
  case round =>
    obtain ⟨k, hk, rfl, hn⟩ := hrel
    have H := Lib.hid hn; clear hn
    by_cases hk7 : k = 7
    · subst hk7
      have hf := Lib.hid (mayB_none H.out)
      simp only [waitAt]
      go_wp2
      go_ret
      exact ⟨ret_bool hf.out.symm, rfl⟩
    · have hlt : k < 7 := by omega
      by_cases hm : wt = waitAt k ∧ c = 0
      · obtain ⟨rfl, rfl⟩ := hm
        have hf := Lib.hid (mayB_wait (c := 0) hlt rfl)
        have b1 : waitAt k ≤ 32000 := by
          match k, hlt with
          | 0, _ | 1, _ | 2, _ | 3, _ | 4, _ | 5, _ | 6, _ => decide
        clear hk hk7
        go_wp2
        go_ret
        exact ⟨ret_bool hf.out.symm, rfl⟩
      · have hr : MayRel wt c (.int .i64 (waitAt k * 2)) := by
          refine MayRel.next hlt H.out hm ?_
          match k, hlt with
          | 0, _ | 1, _ | 2, _ | 3, _ | 4, _ | 5, _ | 6, _ => decide
        have b1 : waitAt k ≤ 32000 := by
          match k, hlt with
          | 0, _ | 1, _ | 2, _ | 3, _ | 4, _ | 5, _ | 6, _ => decide
        have b2 : 500 ≤ waitAt k := by
          match k, hlt with
          | 0, _ | 1, _ | 2, _ | 3, _ | 4, _ | 5, _ | 6, _ => decide
        have HR := Lib.hid hr
        have HM := Lib.hid hm
        clear hk hk7 hm hr
        go_wp2
        · exact absurd ⟨‹wt = waitAt k›, ‹c = 0›⟩ HM.out
        · go_round
          case rel => have h := ‹wt = waitAt k›; have hr := HR.out; rw [h] at hr; exact hr
          case measure => simp [intOf]; omega
        · go_round
          case rel => exact HR.out
          case measure => simp [intOf]; omega

theorem class2 (c : Int) : (classOf c == 2) = decide (200 ≤ c ∧ c ≤ 299) := by
  rw [Bool.eq_iff_iff]; simp only [classOf, beq_iff_eq, decide_eq_true_eq]; split <;> (try split) <;> (try split) <;> omega
theorem class3 (c : Int) : (classOf c == 3) = decide (300 ≤ c ∧ c ≤ 699) := by
  rw [Bool.eq_iff_iff]; simp only [classOf, beq_iff_eq, decide_eq_true_eq]; split <;> (try split) <;> (try split) <;> omega

set_option maxHeartbeats 1000000 in
theorem may_3 (wt c : Int) (w : World) : Calls Try.prog 14 #[.agg #[.int .u8 3, .int .i64 wt, .int .i64 c]] w (MayPost 3 wt c w) := by
  by_cases hw : wt = 0
  · by_cases hc : c = 0
    · subst hw hc
      go_enter Try.func14, Try.ntmps14
      go_wp2
      go_ret
      exact ⟨rfl, rfl⟩
    · subst hw
      have hf := Lib.hid (show mayB 3 0 c = false by simp [mayB, hc])
      have hc' : (c == 0) = false := by simp [hc]
      go_enter Try.func14, Try.ntmps14
      go_wp2
      go_ret
      exact ⟨ret_bool hf.out.symm, rfl⟩
  · have hf := Lib.hid (show mayB 3 wt c = false by simp [mayB, hw])
    go_enter Try.func14, Try.ntmps14
    go_wp2
    go_ret
    exact ⟨ret_bool hf.out.symm, rfl⟩

set_option maxHeartbeats 1000000 in
theorem may_4 (wt c : Int) (w : World) : Calls Try.prog 14 #[.agg #[.int .u8 4, .int .i64 wt, .int .i64 c]] w (MayPost 4 wt c w) := by
  by_cases hw : wt = 0
  · subst hw
    have hf := Lib.hid (show mayB 4 0 c = (classOf c == 2) by rw [class2]; simp [mayB])
    go_enter Try.func14, Try.ntmps14
    go_wp2_with (go_at_call 26; refine (class_any _ _).mono ?_; rintro e w' ⟨rfl, rfl⟩)
    go_ret
    exact ⟨ret_bool hf.out.symm, rfl⟩
  · have hf := Lib.hid (show mayB 4 wt c = false by simp [mayB, hw])
    have hw' : (wt == 0) = false := by simp [hw]
    go_enter Try.func14, Try.ntmps14
    go_wp2
    go_ret
    exact ⟨ret_bool hf.out.symm, rfl⟩

set_option maxHeartbeats 1000000 in
theorem may_5 (wt c : Int) (w : World) : Calls Try.prog 14 #[.agg #[.int .u8 5, .int .i64 wt, .int .i64 c]] w (MayPost 5 wt c w) := by
  by_cases hw : wt = 0
  · subst hw
    have hf := Lib.hid (show mayB 5 0 c = (classOf c == 3) by rw [class3]; simp [mayB])
    go_enter Try.func14, Try.ntmps14
    go_wp2_with (go_at_call 26; refine (class_any _ _).mono ?_; rintro e w' ⟨rfl, rfl⟩)
    go_ret
    exact ⟨ret_bool hf.out.symm, rfl⟩
  · have hf := Lib.hid (show mayB 5 wt c = false by simp [mayB, hw])
    have hw' : (wt == 0) = false := by simp [hw]
    go_enter Try.func14, Try.ntmps14
    go_wp2
    go_ret
    exact ⟨ret_bool hf.out.symm, rfl⟩

set_option maxHeartbeats 1000000 in
theorem may_7 (wt c : Int) (w : World) : Calls Try.prog 14 #[.agg #[.int .u8 7, .int .i64 wt, .int .i64 c]] w (MayPost 7 wt c w) := by
  by_cases hw : wt = 0
  · subst hw
    by_cases hc : c = 0
    · subst hc
      go_enter Try.func14, Try.ntmps14
      go_wp2
      go_ret
      exact ⟨rfl, rfl⟩
    · have hc' : (c == 0) = false := by simp [hc]
      by_cases hc2 : 200 ≤ c
      · have hf := Lib.hid (show mayB 7 0 c = decide (c ≤ 699) by simp [mayB, hc, hc2])
        go_enter Try.func14, Try.ntmps14
        go_wp2
        go_ret
        exact ⟨ret_bool hf.out.symm, rfl⟩
      · have hf := Lib.hid (show mayB 7 0 c = false by simp [mayB, hc]; omega)
        go_enter Try.func14, Try.ntmps14
        go_wp2
        go_ret
        exact ⟨ret_bool hf.out.symm, rfl⟩
  · have hf := Lib.hid (show mayB 7 wt c = false by simp [mayB, hw])
    have hw' : (wt == 0) = false := by simp [hw]
    go_enter Try.func14, Try.ntmps14
    go_wp2
    go_ret
    exact ⟨ret_bool hf.out.symm, rfl⟩

set_option maxHeartbeats 1000000 in
theorem may_any (s wt c : Int) (w : World) : Calls Try.prog 14 #[.agg #[.int .u8 s, .int .i64 wt, .int .i64 c]] w (MayPost s wt c w) := by
  by_cases h1 : s = 1
  · subst h1; exact may_1 wt c w
  by_cases h3 : s = 3
  · subst h3; exact may_3 wt c w
  by_cases h4 : s = 4
  · subst h4; exact may_4 wt c w
  by_cases h5 : s = 5
  · subst h5; exact may_5 wt c w
  by_cases h7 : s = 7
  · subst h7; exact may_7 wt c w
  have hf := Lib.hid (show mayB s wt c = false by simp [mayB, h1, h3, h4, h5, h7])
  have g1 : (s == 1) = false := by simp [h1]
  have g3 : (s == 3) = false := by simp [h3]
  have g4 : (s == 4) = false := by simp [h4]
  have g5 : (s == 5) = false := by simp [h5]
  have g7 : (s == 7) = false := by simp [h7]
  clear h1 h3 h4 h5 h7
  go_enter Try.func14, Try.ntmps14
  go_wp2
  go_ret
  exact ⟨ret_bool hf.out.symm, rfl⟩
end Go.Proofs.Ytdooohanhekniaa
