/- inviteclient.Step returns what the plain function stepS says, for every machine and input. -/
import Derived.Test.YtdooohanhekniaaM
import Derived.Test.YtdooohanhekniaaKb
namespace Go.Proofs.Ytdooohanhekniaa
open Go.RowKit

def allRows (s wt c ic d : Int) : List Row := (tRows s wt c ic d).map (·.2) ++ loopRows 1 ic ++ loopRows 3 ic
def dbl (wt : Int) : Int := min (2 * wt) 32000

theorem may_range {s wt c : Int} (h : mayB s wt c = true) : 0 ≤ wt ∧ wt ≤ 32000 := by
  unfold mayB wOk at h
  split at h
  · simp at h; omega
  split at h
  · simp at h; omega
  split at h
  · simp at h; omega
  split at h
  · simp at h; omega
  split at h
  · simp at h; omega
  · cases h

theorem tab_any (s wt c k ic t : Int) (hm : mayB s wt c = true) (w : World) :
    Calls Try.prog 31 #[.agg #[.int .u8 s, .int .i64 wt, .int .i64 c], .agg #[.int .u8 k, .int .i64 ic, .int .u8 t]] w (TabPost (allRows s wt c ic (dbl wt)) w) := by
  have hr := may_range hm
  by_cases h : 2 * wt ≤ 32000
  · have e : dbl wt = 2 * wt := by unfold dbl; omega
    rw [e]
    exact table_any s wt c k ic t w hr.1 h
  · have e : dbl wt = 32000 := by unfold dbl; omega
    rw [e]
    exact table_cut s wt c k ic t w (by omega) hr.2

theorem all_eq (s wt c ic d : Int) : allRows s wt c ic d = [⟨(1, 5, 0, 1), ⟨1, d, 0⟩, [⟨1, 0, 0, 0⟩, ⟨4, 0, 1, d⟩]⟩, ⟨(1, 5, 0, 2), ⟨7, 0, c⟩, [⟨5, 0, 0, 0⟩, ⟨7, 0, 0, 0⟩]⟩, ⟨(1, 6, 0, 0), ⟨7, 0, c⟩, [⟨6, 0, 0, 0⟩, ⟨7, 0, 0, 0⟩]⟩, ⟨(4, 2, 2, 0), ⟨s, wt, c⟩, [⟨3, ic, 0, 0⟩]⟩, ⟨(4, 5, 0, 13), ⟨7, 0, c⟩, [⟨7, 0, 0, 0⟩]⟩, ⟨(5, 2, 3, 0), ⟨s, wt, c⟩, [⟨2, ic, 0, 0⟩]⟩, ⟨(5, 5, 0, 4), ⟨7, 0, c⟩, [⟨7, 0, 0, 0⟩]⟩, ⟨(5, 6, 0, 0), ⟨7, 0, c⟩, [⟨6, 0, 0, 0⟩, ⟨7, 0, 0, 0⟩]⟩, ⟨(1, 2, 1, 0), ⟨3, 0, 0⟩, [⟨3, ic, 0, 0⟩]⟩, ⟨(1, 2, 2, 0), ⟨4, 0, ic⟩, [⟨3, ic, 0, 0⟩, ⟨4, 0, 13, 32000⟩]⟩, ⟨(1, 2, 3, 0), ⟨5, 0, ic⟩, [⟨3, ic, 0, 0⟩, ⟨2, ic, 0, 0⟩, ⟨4, 0, 4, 32000⟩]⟩, ⟨(3, 2, 1, 0), ⟨3, 0, 0⟩, [⟨3, ic, 0, 0⟩]⟩, ⟨(3, 2, 2, 0), ⟨4, 0, ic⟩, [⟨3, ic, 0, 0⟩, ⟨4, 0, 13, 32000⟩]⟩, ⟨(3, 2, 3, 0), ⟨5, 0, ic⟩, [⟨3, ic, 0, 0⟩, ⟨2, ic, 0, 0⟩, ⟨4, 0, 4, 32000⟩]⟩] := rfl

/-- Every key of the table, as the walk needs it: a row with the key is that row. -/
theorem row_is {s wt c ic d : Int} {y : Row} (hy : y ∈ allRows s wt c ic d) : y = (⟨(1, 5, 0, 1), ⟨1, d, 0⟩, [⟨1, 0, 0, 0⟩, ⟨4, 0, 1, d⟩]⟩ : Row) ∨ y = (⟨(1, 5, 0, 2), ⟨7, 0, c⟩, [⟨5, 0, 0, 0⟩, ⟨7, 0, 0, 0⟩]⟩ : Row) ∨ y = (⟨(1, 6, 0, 0), ⟨7, 0, c⟩, [⟨6, 0, 0, 0⟩, ⟨7, 0, 0, 0⟩]⟩ : Row) ∨ y = (⟨(4, 2, 2, 0), ⟨s, wt, c⟩, [⟨3, ic, 0, 0⟩]⟩ : Row) ∨ y = (⟨(4, 5, 0, 13), ⟨7, 0, c⟩, [⟨7, 0, 0, 0⟩]⟩ : Row) ∨ y = (⟨(5, 2, 3, 0), ⟨s, wt, c⟩, [⟨2, ic, 0, 0⟩]⟩ : Row) ∨ y = (⟨(5, 5, 0, 4), ⟨7, 0, c⟩, [⟨7, 0, 0, 0⟩]⟩ : Row) ∨ y = (⟨(5, 6, 0, 0), ⟨7, 0, c⟩, [⟨6, 0, 0, 0⟩, ⟨7, 0, 0, 0⟩]⟩ : Row) ∨ y = (⟨(1, 2, 1, 0), ⟨3, 0, 0⟩, [⟨3, ic, 0, 0⟩]⟩ : Row) ∨ y = (⟨(1, 2, 2, 0), ⟨4, 0, ic⟩, [⟨3, ic, 0, 0⟩, ⟨4, 0, 13, 32000⟩]⟩ : Row) ∨ y = (⟨(1, 2, 3, 0), ⟨5, 0, ic⟩, [⟨3, ic, 0, 0⟩, ⟨2, ic, 0, 0⟩, ⟨4, 0, 4, 32000⟩]⟩ : Row) ∨ y = (⟨(3, 2, 1, 0), ⟨3, 0, 0⟩, [⟨3, ic, 0, 0⟩]⟩ : Row) ∨ y = (⟨(3, 2, 2, 0), ⟨4, 0, ic⟩, [⟨3, ic, 0, 0⟩, ⟨4, 0, 13, 32000⟩]⟩ : Row) ∨ y = (⟨(3, 2, 3, 0), ⟨5, 0, ic⟩, [⟨3, ic, 0, 0⟩, ⟨2, ic, 0, 0⟩, ⟨4, 0, 4, 32000⟩]⟩ : Row) := by
  rw [all_eq] at hy
  simpa only [List.mem_cons, List.not_mem_nil, or_false] using hy

theorem step_hit (s wt c k ic t : Int) (w : World) (x : Row) (hm : mayB s wt c = true) (hx : x ∈ allRows s wt c ic (dbl wt)) (hk : x.k = (s, k, keyClass k ic, keyTimer k t))
    (hu : ∀ y ∈ allRows s wt c ic (dbl wt), y.k = x.k → y = x) :
    Calls Try.prog 24 #[.agg #[.int .u8 s, .int .i64 wt, .int .i64 c], .agg #[.int .u8 k, .int .i64 ic, .int .u8 t]] w (RetMO w x.m x.l) :=
  step_some s wt c k ic t w _ x hm (tab_any s wt c k ic t hm) hx hk fun y hy e => hu y hy (e.trans hk.symm)

theorem class_1 {c : Int} (h1 : 100 ≤ c) (h2 : c ≤ 199) : classOf c = 1 := by unfold classOf; split <;> (try split) <;> (try split) <;> omega
theorem class_2 {c : Int} (h1 : 200 ≤ c) (h2 : c ≤ 299) : classOf c = 2 := by unfold classOf; split <;> (try split) <;> (try split) <;> omega
theorem class_3 {c : Int} (h1 : 300 ≤ c) (h2 : c ≤ 699) : classOf c = 3 := by unfold classOf; split <;> (try split) <;> (try split) <;> omega
theorem class_0 {c : Int} (h : c < 100 ∨ 699 < c) : classOf c = 0 := by unfold classOf; rw [if_pos h]


/-- In each case either one row fits or none. -/
theorem step_any (s wt c k ic t : Int) (w : World) : Calls Try.prog 24 #[.agg #[.int .u8 s, .int .i64 wt, .int .i64 c], .agg #[.int .u8 k, .int .i64 ic, .int .u8 t]] w (RetMO w (stepS ⟨s, wt, c⟩ ⟨k, ic, t⟩).1 (stepS ⟨s, wt, c⟩ ⟨k, ic, t⟩).2) := by
  by_cases hm0 : mayB s wt c = false
  · simpa [stepS, hm0] using step_no s wt c k ic t w hm0
  have hm : mayB s wt c = true := by simpa using hm0
  have none : (∀ y ∈ allRows s wt c ic (dbl wt), y.k ≠ (s, k, keyClass k ic, keyTimer k t)) → stepS ⟨s, wt, c⟩ ⟨k, ic, t⟩ = (⟨s, wt, c⟩, []) →
      Calls Try.prog 24 #[.agg #[.int .u8 s, .int .i64 wt, .int .i64 c], .agg #[.int .u8 k, .int .i64 ic, .int .u8 t]] w (RetMO w (stepS ⟨s, wt, c⟩ ⟨k, ic, t⟩).1 (stepS ⟨s, wt, c⟩ ⟨k, ic, t⟩).2) := by
    intro hn e
    rw [e]
    exact step_none s wt c k ic t w _ hm (tab_any s wt c k ic t hm) hn
  have hit : ∀ x : Row, x ∈ allRows s wt c ic (dbl wt) → x.k = (s, k, keyClass k ic, keyTimer k t) → (∀ y ∈ allRows s wt c ic (dbl wt), y.k = x.k → y = x) → stepS ⟨s, wt, c⟩ ⟨k, ic, t⟩ = (x.m, x.l) →
      Calls Try.prog 24 #[.agg #[.int .u8 s, .int .i64 wt, .int .i64 c], .agg #[.int .u8 k, .int .i64 ic, .int .u8 t]] w (RetMO w (stepS ⟨s, wt, c⟩ ⟨k, ic, t⟩).1 (stepS ⟨s, wt, c⟩ ⟨k, ic, t⟩).2) := by
    intro x hx hk hu e
    rw [e]
    exact step_hit s wt c k ic t w x hm hx hk hu
  by_cases k2 : k = 2
  · subst k2
    have kt : keyTimer 2 t = 0 := rfl
    have kc : keyClass 2 ic = classOf ic := rfl
    by_cases b1 : 100 ≤ ic ∧ ic ≤ 199
    · have cl := class_1 b1.1 b1.2
      by_cases a1 : s = 1
      · subst a1; exact hit ⟨(1, 2, 1, 0), ⟨3, 0, 0⟩, [⟨3, ic, 0, 0⟩]⟩ (by simp [all_eq]) (by simp [kt, kc, cl]) (by intro y hy; rcases row_is hy with rfl | rfl | rfl | rfl | rfl | rfl | rfl | rfl | rfl | rfl | rfl | rfl | rfl | rfl <;> simp) (by simp [stepS, hm, respS, b1])
      by_cases a3 : s = 3
      · subst a3; exact hit ⟨(3, 2, 1, 0), ⟨3, 0, 0⟩, [⟨3, ic, 0, 0⟩]⟩ (by simp [all_eq]) (by simp [kt, kc, cl]) (by intro y hy; rcases row_is hy with rfl | rfl | rfl | rfl | rfl | rfl | rfl | rfl | rfl | rfl | rfl | rfl | rfl | rfl <;> simp) (by simp [stepS, hm, respS, b1])
      refine none ?_ ?_
      · intro y hy; rw [kt, kc, cl]; rcases row_is hy with rfl | rfl | rfl | rfl | rfl | rfl | rfl | rfl | rfl | rfl | rfl | rfl | rfl | rfl <;> simp <;> omega
      · have n2 : ¬ (200 ≤ ic ∧ ic ≤ 299) := by omega
        have n3 : ¬ (300 ≤ ic ∧ ic ≤ 699) := by omega
        simp [stepS, hm, respS, a1, a3, n2, n3]
    by_cases b2 : 200 ≤ ic ∧ ic ≤ 299
    · have cl := class_2 b2.1 b2.2
      by_cases a1 : s = 1
      · subst a1; exact hit ⟨(1, 2, 2, 0), ⟨4, 0, ic⟩, [⟨3, ic, 0, 0⟩, ⟨4, 0, 13, 32000⟩]⟩ (by simp [all_eq]) (by simp [kt, kc, cl]) (by intro y hy; rcases row_is hy with rfl | rfl | rfl | rfl | rfl | rfl | rfl | rfl | rfl | rfl | rfl | rfl | rfl | rfl <;> simp) (by simp [stepS, hm, respS, b1, b2])
      by_cases a3 : s = 3
      · subst a3; exact hit ⟨(3, 2, 2, 0), ⟨4, 0, ic⟩, [⟨3, ic, 0, 0⟩, ⟨4, 0, 13, 32000⟩]⟩ (by simp [all_eq]) (by simp [kt, kc, cl]) (by intro y hy; rcases row_is hy with rfl | rfl | rfl | rfl | rfl | rfl | rfl | rfl | rfl | rfl | rfl | rfl | rfl | rfl <;> simp) (by simp [stepS, hm, respS, b1, b2])
      by_cases a4 : s = 4
      · subst a4; exact hit ⟨(4, 2, 2, 0), ⟨4, wt, c⟩, [⟨3, ic, 0, 0⟩]⟩ (by simp [all_eq]) (by simp [kt, kc, cl]) (by intro y hy; rcases row_is hy with rfl | rfl | rfl | rfl | rfl | rfl | rfl | rfl | rfl | rfl | rfl | rfl | rfl | rfl <;> simp) (by simp [stepS, hm, respS, b2])
      refine none ?_ ?_
      · intro y hy; rw [kt, kc, cl]; rcases row_is hy with rfl | rfl | rfl | rfl | rfl | rfl | rfl | rfl | rfl | rfl | rfl | rfl | rfl | rfl <;> simp <;> omega
      · have n3 : ¬ (300 ≤ ic ∧ ic ≤ 699) := by omega
        simp [stepS, hm, respS, a1, a3, a4, n3]
    by_cases b3 : 300 ≤ ic ∧ ic ≤ 699
    · have cl := class_3 b3.1 b3.2
      by_cases a1 : s = 1
      · subst a1; exact hit ⟨(1, 2, 3, 0), ⟨5, 0, ic⟩, [⟨3, ic, 0, 0⟩, ⟨2, ic, 0, 0⟩, ⟨4, 0, 4, 32000⟩]⟩ (by simp [all_eq]) (by simp [kt, kc, cl]) (by intro y hy; rcases row_is hy with rfl | rfl | rfl | rfl | rfl | rfl | rfl | rfl | rfl | rfl | rfl | rfl | rfl | rfl <;> simp) (by simp [stepS, hm, respS, b1, b2, b3])
      by_cases a3 : s = 3
      · subst a3; exact hit ⟨(3, 2, 3, 0), ⟨5, 0, ic⟩, [⟨3, ic, 0, 0⟩, ⟨2, ic, 0, 0⟩, ⟨4, 0, 4, 32000⟩]⟩ (by simp [all_eq]) (by simp [kt, kc, cl]) (by intro y hy; rcases row_is hy with rfl | rfl | rfl | rfl | rfl | rfl | rfl | rfl | rfl | rfl | rfl | rfl | rfl | rfl <;> simp) (by simp [stepS, hm, respS, b1, b2, b3])
      by_cases a5 : s = 5
      · subst a5; exact hit ⟨(5, 2, 3, 0), ⟨5, wt, c⟩, [⟨2, ic, 0, 0⟩]⟩ (by simp [all_eq]) (by simp [kt, kc, cl]) (by intro y hy; rcases row_is hy with rfl | rfl | rfl | rfl | rfl | rfl | rfl | rfl | rfl | rfl | rfl | rfl | rfl | rfl <;> simp) (by simp [stepS, hm, respS, b3])
      refine none ?_ ?_
      · intro y hy; rw [kt, kc, cl]; rcases row_is hy with rfl | rfl | rfl | rfl | rfl | rfl | rfl | rfl | rfl | rfl | rfl | rfl | rfl | rfl <;> simp <;> omega
      · simp [stepS, hm, respS, a1, a3, a5, b2]
    have cl := class_0 (c := ic) (by omega)
    refine none ?_ ?_
    · intro y hy; rw [kt, kc, cl]; rcases row_is hy with rfl | rfl | rfl | rfl | rfl | rfl | rfl | rfl | rfl | rfl | rfl | rfl | rfl | rfl <;> simp
    · simp [stepS, hm, respS, b1, b2, b3]
  by_cases k5 : k = 5
  · subst k5
    have kt : keyTimer 5 t = t := rfl
    have kc : keyClass 5 ic = 0 := rfl
    by_cases c1 : s = 1 ∧ t = 1
    · obtain ⟨rfl, rfl⟩ := c1
      obtain rfl : c = 0 := by simp [mayB] at hm; exact hm.1
      exact hit ⟨(1, 5, 0, 1), ⟨1, dbl wt, 0⟩, [⟨1, 0, 0, 0⟩, ⟨4, 0, 1, dbl wt⟩]⟩ (by simp [all_eq]) (by simp [kt, kc]) (by intro y hy; rcases row_is hy with rfl | rfl | rfl | rfl | rfl | rfl | rfl | rfl | rfl | rfl | rfl | rfl | rfl | rfl <;> simp) (by simp [stepS, hm, timS, dbl])
    by_cases c2 : s = 1 ∧ t = 2
    · obtain ⟨rfl, rfl⟩ := c2
      exact hit ⟨(1, 5, 0, 2), ⟨7, 0, c⟩, [⟨5, 0, 0, 0⟩, ⟨7, 0, 0, 0⟩]⟩ (by simp [all_eq]) (by simp [kt, kc]) (by intro y hy; rcases row_is hy with rfl | rfl | rfl | rfl | rfl | rfl | rfl | rfl | rfl | rfl | rfl | rfl | rfl | rfl <;> simp) (by simp [stepS, hm, timS])
    by_cases c3 : s = 4 ∧ t = 13
    · obtain ⟨rfl, rfl⟩ := c3
      exact hit ⟨(4, 5, 0, 13), ⟨7, 0, c⟩, [⟨7, 0, 0, 0⟩]⟩ (by simp [all_eq]) (by simp [kt, kc]) (by intro y hy; rcases row_is hy with rfl | rfl | rfl | rfl | rfl | rfl | rfl | rfl | rfl | rfl | rfl | rfl | rfl | rfl <;> simp) (by simp [stepS, hm, timS])
    by_cases c4 : s = 5 ∧ t = 4
    · obtain ⟨rfl, rfl⟩ := c4
      exact hit ⟨(5, 5, 0, 4), ⟨7, 0, c⟩, [⟨7, 0, 0, 0⟩]⟩ (by simp [all_eq]) (by simp [kt, kc]) (by intro y hy; rcases row_is hy with rfl | rfl | rfl | rfl | rfl | rfl | rfl | rfl | rfl | rfl | rfl | rfl | rfl | rfl <;> simp) (by simp [stepS, hm, timS])
    refine none ?_ ?_
    · intro y hy; rw [kt, kc]; rcases row_is hy with rfl | rfl | rfl | rfl | rfl | rfl | rfl | rfl | rfl | rfl | rfl | rfl | rfl | rfl <;> simp <;> omega
    · simp [stepS, hm, timS, c1, c2, c3, c4]
  by_cases k6 : k = 6
  · subst k6
    have kt : keyTimer 6 t = 0 := rfl
    have kc : keyClass 6 ic = 0 := rfl
    by_cases a1 : s = 1
    · subst a1; exact hit ⟨(1, 6, 0, 0), ⟨7, 0, c⟩, [⟨6, 0, 0, 0⟩, ⟨7, 0, 0, 0⟩]⟩ (by simp [all_eq]) (by simp [kt, kc]) (by intro y hy; rcases row_is hy with rfl | rfl | rfl | rfl | rfl | rfl | rfl | rfl | rfl | rfl | rfl | rfl | rfl | rfl <;> simp) (by simp [stepS, hm, failS])
    by_cases a5 : s = 5
    · subst a5; exact hit ⟨(5, 6, 0, 0), ⟨7, 0, c⟩, [⟨6, 0, 0, 0⟩, ⟨7, 0, 0, 0⟩]⟩ (by simp [all_eq]) (by simp [kt, kc]) (by intro y hy; rcases row_is hy with rfl | rfl | rfl | rfl | rfl | rfl | rfl | rfl | rfl | rfl | rfl | rfl | rfl | rfl <;> simp) (by simp [stepS, hm, failS])
    refine none ?_ ?_
    · intro y hy; rw [kt, kc]; rcases row_is hy with rfl | rfl | rfl | rfl | rfl | rfl | rfl | rfl | rfl | rfl | rfl | rfl | rfl | rfl <;> simp <;> omega
    · simp [stepS, hm, failS, a1, a5]
  refine none ?_ ?_
  · intro y hy; rcases row_is hy with rfl | rfl | rfl | rfl | rfl | rfl | rfl | rfl | rfl | rfl | rfl | rfl | rfl | rfl <;> simp <;> omega
  · simp [stepS, hm, k2, k5, k6]
end Go.Proofs.Ytdooohanhekniaa
