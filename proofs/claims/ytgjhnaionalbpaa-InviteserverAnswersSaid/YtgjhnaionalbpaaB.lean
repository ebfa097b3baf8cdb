/- The contract of May, of inviteserver and of the reference dialtoneref14. -/
import Derived.Test.YtgjhnaionalbpaaA
namespace Go.Proofs.Ytgjhnaionalbpaa
open Go.RowKit

def wOk (x : Int) : Bool := x == 500 || x == 1000 || x == 2000 || x == 4000
def mayB (s wt c : Int) : Bool :=
  if s = 3 then wt == 0 && fromB c 100 199
  else if s = 4 then wt == 0 && fromB c 200 299
  else if s = 5 then fromB c 300 699 && wOk wt
  else if s = 6 then wt == 0 && fromB c 300 699
  else if s = 7 then wt == 0 && fromB c 100 699
  else false
def MayPost (s wt c : Int) (w : World) (e : Ending) (w' : World) : Prop := e = .returned (.bool (mayB s wt c)) ∧ w' = w.alloc (.cells #[.int .u8 s, .int .i64 wt, .int .i64 c] 26)

theorem class_cases (c : Int) : ((c < 100 ∨ 699 < c) ∧ classOf c = 0) ∨ (c = 100 ∧ classOf c = 1) ∨ ((101 ≤ c ∧ c ≤ 199) ∧ classOf c = 2) ∨ ((200 ≤ c ∧ c ≤ 299) ∧ classOf c = 3) ∨ ((300 ≤ c ∧ c ≤ 699) ∧ classOf c = 4) := by
  unfold classOf
  split
  · exact Or.inl ⟨by assumption, rfl⟩
  split
  · exact Or.inr (Or.inl ⟨by assumption, rfl⟩)
  split
  · exact Or.inr (Or.inr (Or.inl ⟨by omega, rfl⟩))
  split
  · exact Or.inr (Or.inr (Or.inr (Or.inl ⟨by omega, rfl⟩)))
  · exact Or.inr (Or.inr (Or.inr (Or.inr ⟨by omega, rfl⟩)))

set_option maxHeartbeats 1000000 in
theorem may_3_0 (wt c : Int) (w : World) (h : c < 100 ∨ 699 < c) (hc : classOf c = 0) : Calls Try.prog 14 #[.agg #[.int .u8 3, .int .i64 wt, .int .i64 c]] w (MayPost 3 wt c w) := by
  have HC := Lib.hid hc; clear hc
  by_cases hw : wt = 0
  · subst hw
    have HF := Lib.hid (show mayB 3 0 c = false by simp [mayB, fromB]; omega)
    clear h
    go_enter Try.func14, Try.ntmps14
    go_wp2_with (go_at_call 28; refine (class_any _ _).mono ?_; rw [HC.out]; rintro e w' ⟨rfl, rfl⟩)
    go_ret
    exact ⟨ret_bool HF.out.symm, rfl⟩
  · have HF := Lib.hid (show mayB 3 wt c = false by simp [mayB, hw])
    have hw' : (wt == 0) = false := by simp [hw]
    clear h hw
    go_enter Try.func14, Try.ntmps14
    go_wp2_with (go_at_call 28; refine (class_any _ _).mono ?_; rw [HC.out]; rintro e w' ⟨rfl, rfl⟩)
    go_ret
    exact ⟨ret_bool HF.out.symm, rfl⟩

set_option maxHeartbeats 1000000 in
theorem may_3_1 (wt c : Int) (w : World) (h : c = 100) (hc : classOf c = 1) : Calls Try.prog 14 #[.agg #[.int .u8 3, .int .i64 wt, .int .i64 c]] w (MayPost 3 wt c w) := by
  have HC := Lib.hid hc; clear hc
  by_cases hw : wt = 0
  · subst hw
    have HF := Lib.hid (show mayB 3 0 c = true by simp [mayB, fromB]; omega)
    clear h
    go_enter Try.func14, Try.ntmps14
    go_wp2_with (go_at_call 28; refine (class_any _ _).mono ?_; rw [HC.out]; rintro e w' ⟨rfl, rfl⟩)
    go_ret
    exact ⟨ret_bool HF.out.symm, rfl⟩
  · have HF := Lib.hid (show mayB 3 wt c = false by simp [mayB, hw])
    have hw' : (wt == 0) = false := by simp [hw]
    clear h hw
    go_enter Try.func14, Try.ntmps14
    go_wp2_with (go_at_call 28; refine (class_any _ _).mono ?_; rw [HC.out]; rintro e w' ⟨rfl, rfl⟩)
    go_ret
    exact ⟨ret_bool HF.out.symm, rfl⟩

set_option maxHeartbeats 1000000 in
theorem may_3_2 (wt c : Int) (w : World) (h : 101 ≤ c ∧ c ≤ 199) (hc : classOf c = 2) : Calls Try.prog 14 #[.agg #[.int .u8 3, .int .i64 wt, .int .i64 c]] w (MayPost 3 wt c w) := by
  have HC := Lib.hid hc; clear hc
  by_cases hw : wt = 0
  · subst hw
    have HF := Lib.hid (show mayB 3 0 c = true by simp [mayB, fromB]; omega)
    clear h
    go_enter Try.func14, Try.ntmps14
    go_wp2_with (go_at_call 28; refine (class_any _ _).mono ?_; rw [HC.out]; rintro e w' ⟨rfl, rfl⟩)
    go_ret
    exact ⟨ret_bool HF.out.symm, rfl⟩
  · have HF := Lib.hid (show mayB 3 wt c = false by simp [mayB, hw])
    have hw' : (wt == 0) = false := by simp [hw]
    clear h hw
    go_enter Try.func14, Try.ntmps14
    go_wp2_with (go_at_call 28; refine (class_any _ _).mono ?_; rw [HC.out]; rintro e w' ⟨rfl, rfl⟩)
    go_ret
    exact ⟨ret_bool HF.out.symm, rfl⟩

set_option maxHeartbeats 1000000 in
theorem may_3_3 (wt c : Int) (w : World) (h : 200 ≤ c ∧ c ≤ 299) (hc : classOf c = 3) : Calls Try.prog 14 #[.agg #[.int .u8 3, .int .i64 wt, .int .i64 c]] w (MayPost 3 wt c w) := by
  have HC := Lib.hid hc; clear hc
  by_cases hw : wt = 0
  · subst hw
    have HF := Lib.hid (show mayB 3 0 c = false by simp [mayB, fromB]; omega)
    clear h
    go_enter Try.func14, Try.ntmps14
    go_wp2_with (go_at_call 28; refine (class_any _ _).mono ?_; rw [HC.out]; rintro e w' ⟨rfl, rfl⟩)
    go_ret
    exact ⟨ret_bool HF.out.symm, rfl⟩
  · have HF := Lib.hid (show mayB 3 wt c = false by simp [mayB, hw])
    have hw' : (wt == 0) = false := by simp [hw]
    clear h hw
    go_enter Try.func14, Try.ntmps14
    go_wp2_with (go_at_call 28; refine (class_any _ _).mono ?_; rw [HC.out]; rintro e w' ⟨rfl, rfl⟩)
    go_ret
    exact ⟨ret_bool HF.out.symm, rfl⟩

set_option maxHeartbeats 1000000 in
theorem may_3_4 (wt c : Int) (w : World) (h : 300 ≤ c ∧ c ≤ 699) (hc : classOf c = 4) : Calls Try.prog 14 #[.agg #[.int .u8 3, .int .i64 wt, .int .i64 c]] w (MayPost 3 wt c w) := by
  have HC := Lib.hid hc; clear hc
  by_cases hw : wt = 0
  · subst hw
    have HF := Lib.hid (show mayB 3 0 c = false by simp [mayB, fromB]; omega)
    clear h
    go_enter Try.func14, Try.ntmps14
    go_wp2_with (go_at_call 28; refine (class_any _ _).mono ?_; rw [HC.out]; rintro e w' ⟨rfl, rfl⟩)
    go_ret
    exact ⟨ret_bool HF.out.symm, rfl⟩
  · have HF := Lib.hid (show mayB 3 wt c = false by simp [mayB, hw])
    have hw' : (wt == 0) = false := by simp [hw]
    clear h hw
    go_enter Try.func14, Try.ntmps14
    go_wp2_with (go_at_call 28; refine (class_any _ _).mono ?_; rw [HC.out]; rintro e w' ⟨rfl, rfl⟩)
    go_ret
    exact ⟨ret_bool HF.out.symm, rfl⟩

set_option maxHeartbeats 1000000 in
theorem may_4_0 (wt c : Int) (w : World) (h : c < 100 ∨ 699 < c) (hc : classOf c = 0) : Calls Try.prog 14 #[.agg #[.int .u8 4, .int .i64 wt, .int .i64 c]] w (MayPost 4 wt c w) := by
  have HC := Lib.hid hc; clear hc
  by_cases hw : wt = 0
  · subst hw
    have HF := Lib.hid (show mayB 4 0 c = false by simp [mayB, fromB]; omega)
    clear h
    go_enter Try.func14, Try.ntmps14
    go_wp2_with (go_at_call 28; refine (class_any _ _).mono ?_; rw [HC.out]; rintro e w' ⟨rfl, rfl⟩)
    go_ret
    exact ⟨ret_bool HF.out.symm, rfl⟩
  · have HF := Lib.hid (show mayB 4 wt c = false by simp [mayB, hw])
    have hw' : (wt == 0) = false := by simp [hw]
    clear h hw
    go_enter Try.func14, Try.ntmps14
    go_wp2_with (go_at_call 28; refine (class_any _ _).mono ?_; rw [HC.out]; rintro e w' ⟨rfl, rfl⟩)
    go_ret
    exact ⟨ret_bool HF.out.symm, rfl⟩

set_option maxHeartbeats 1000000 in
theorem may_4_1 (wt c : Int) (w : World) (h : c = 100) (hc : classOf c = 1) : Calls Try.prog 14 #[.agg #[.int .u8 4, .int .i64 wt, .int .i64 c]] w (MayPost 4 wt c w) := by
  have HC := Lib.hid hc; clear hc
  by_cases hw : wt = 0
  · subst hw
    have HF := Lib.hid (show mayB 4 0 c = false by simp [mayB, fromB]; omega)
    clear h
    go_enter Try.func14, Try.ntmps14
    go_wp2_with (go_at_call 28; refine (class_any _ _).mono ?_; rw [HC.out]; rintro e w' ⟨rfl, rfl⟩)
    go_ret
    exact ⟨ret_bool HF.out.symm, rfl⟩
  · have HF := Lib.hid (show mayB 4 wt c = false by simp [mayB, hw])
    have hw' : (wt == 0) = false := by simp [hw]
    clear h hw
    go_enter Try.func14, Try.ntmps14
    go_wp2_with (go_at_call 28; refine (class_any _ _).mono ?_; rw [HC.out]; rintro e w' ⟨rfl, rfl⟩)
    go_ret
    exact ⟨ret_bool HF.out.symm, rfl⟩

set_option maxHeartbeats 1000000 in
theorem may_4_2 (wt c : Int) (w : World) (h : 101 ≤ c ∧ c ≤ 199) (hc : classOf c = 2) : Calls Try.prog 14 #[.agg #[.int .u8 4, .int .i64 wt, .int .i64 c]] w (MayPost 4 wt c w) := by
  have HC := Lib.hid hc; clear hc
  by_cases hw : wt = 0
  · subst hw
    have HF := Lib.hid (show mayB 4 0 c = false by simp [mayB, fromB]; omega)
    clear h
    go_enter Try.func14, Try.ntmps14
    go_wp2_with (go_at_call 28; refine (class_any _ _).mono ?_; rw [HC.out]; rintro e w' ⟨rfl, rfl⟩)
    go_ret
    exact ⟨ret_bool HF.out.symm, rfl⟩
  · have HF := Lib.hid (show mayB 4 wt c = false by simp [mayB, hw])
    have hw' : (wt == 0) = false := by simp [hw]
    clear h hw
    go_enter Try.func14, Try.ntmps14
    go_wp2_with (go_at_call 28; refine (class_any _ _).mono ?_; rw [HC.out]; rintro e w' ⟨rfl, rfl⟩)
    go_ret
    exact ⟨ret_bool HF.out.symm, rfl⟩

set_option maxHeartbeats 1000000 in
theorem may_4_3 (wt c : Int) (w : World) (h : 200 ≤ c ∧ c ≤ 299) (hc : classOf c = 3) : Calls Try.prog 14 #[.agg #[.int .u8 4, .int .i64 wt, .int .i64 c]] w (MayPost 4 wt c w) := by
  have HC := Lib.hid hc; clear hc
  by_cases hw : wt = 0
  · subst hw
    have HF := Lib.hid (show mayB 4 0 c = true by simp [mayB, fromB]; omega)
    clear h
    go_enter Try.func14, Try.ntmps14
    go_wp2_with (go_at_call 28; refine (class_any _ _).mono ?_; rw [HC.out]; rintro e w' ⟨rfl, rfl⟩)
    go_ret
    exact ⟨ret_bool HF.out.symm, rfl⟩
  · have HF := Lib.hid (show mayB 4 wt c = false by simp [mayB, hw])
    have hw' : (wt == 0) = false := by simp [hw]
    clear h hw
    go_enter Try.func14, Try.ntmps14
    go_wp2_with (go_at_call 28; refine (class_any _ _).mono ?_; rw [HC.out]; rintro e w' ⟨rfl, rfl⟩)
    go_ret
    exact ⟨ret_bool HF.out.symm, rfl⟩

set_option maxHeartbeats 1000000 in
theorem may_4_4 (wt c : Int) (w : World) (h : 300 ≤ c ∧ c ≤ 699) (hc : classOf c = 4) : Calls Try.prog 14 #[.agg #[.int .u8 4, .int .i64 wt, .int .i64 c]] w (MayPost 4 wt c w) := by
  have HC := Lib.hid hc; clear hc
  by_cases hw : wt = 0
  · subst hw
    have HF := Lib.hid (show mayB 4 0 c = false by simp [mayB, fromB]; omega)
    clear h
    go_enter Try.func14, Try.ntmps14
    go_wp2_with (go_at_call 28; refine (class_any _ _).mono ?_; rw [HC.out]; rintro e w' ⟨rfl, rfl⟩)
    go_ret
    exact ⟨ret_bool HF.out.symm, rfl⟩
  · have HF := Lib.hid (show mayB 4 wt c = false by simp [mayB, hw])
    have hw' : (wt == 0) = false := by simp [hw]
    clear h hw
    go_enter Try.func14, Try.ntmps14
    go_wp2_with (go_at_call 28; refine (class_any _ _).mono ?_; rw [HC.out]; rintro e w' ⟨rfl, rfl⟩)
    go_ret
    exact ⟨ret_bool HF.out.symm, rfl⟩

set_option maxHeartbeats 1000000 in
theorem may_6_0 (wt c : Int) (w : World) (h : c < 100 ∨ 699 < c) (hc : classOf c = 0) : Calls Try.prog 14 #[.agg #[.int .u8 6, .int .i64 wt, .int .i64 c]] w (MayPost 6 wt c w) := by
  have HC := Lib.hid hc; clear hc
  by_cases hw : wt = 0
  · subst hw
    have HF := Lib.hid (show mayB 6 0 c = false by simp [mayB, fromB]; omega)
    clear h
    go_enter Try.func14, Try.ntmps14
    go_wp2_with (go_at_call 28; refine (class_any _ _).mono ?_; rw [HC.out]; rintro e w' ⟨rfl, rfl⟩)
    go_ret
    exact ⟨ret_bool HF.out.symm, rfl⟩
  · have HF := Lib.hid (show mayB 6 wt c = false by simp [mayB, hw])
    have hw' : (wt == 0) = false := by simp [hw]
    clear h hw
    go_enter Try.func14, Try.ntmps14
    go_wp2_with (go_at_call 28; refine (class_any _ _).mono ?_; rw [HC.out]; rintro e w' ⟨rfl, rfl⟩)
    go_ret
    exact ⟨ret_bool HF.out.symm, rfl⟩

set_option maxHeartbeats 1000000 in
theorem may_6_1 (wt c : Int) (w : World) (h : c = 100) (hc : classOf c = 1) : Calls Try.prog 14 #[.agg #[.int .u8 6, .int .i64 wt, .int .i64 c]] w (MayPost 6 wt c w) := by
  have HC := Lib.hid hc; clear hc
  by_cases hw : wt = 0
  · subst hw
    have HF := Lib.hid (show mayB 6 0 c = false by simp [mayB, fromB]; omega)
    clear h
    go_enter Try.func14, Try.ntmps14
    go_wp2_with (go_at_call 28; refine (class_any _ _).mono ?_; rw [HC.out]; rintro e w' ⟨rfl, rfl⟩)
    go_ret
    exact ⟨ret_bool HF.out.symm, rfl⟩
  · have HF := Lib.hid (show mayB 6 wt c = false by simp [mayB, hw])
    have hw' : (wt == 0) = false := by simp [hw]
    clear h hw
    go_enter Try.func14, Try.ntmps14
    go_wp2_with (go_at_call 28; refine (class_any _ _).mono ?_; rw [HC.out]; rintro e w' ⟨rfl, rfl⟩)
    go_ret
    exact ⟨ret_bool HF.out.symm, rfl⟩

set_option maxHeartbeats 1000000 in
theorem may_6_2 (wt c : Int) (w : World) (h : 101 ≤ c ∧ c ≤ 199) (hc : classOf c = 2) : Calls Try.prog 14 #[.agg #[.int .u8 6, .int .i64 wt, .int .i64 c]] w (MayPost 6 wt c w) := by
  have HC := Lib.hid hc; clear hc
  by_cases hw : wt = 0
  · subst hw
    have HF := Lib.hid (show mayB 6 0 c = false by simp [mayB, fromB]; omega)
    clear h
    go_enter Try.func14, Try.ntmps14
    go_wp2_with (go_at_call 28; refine (class_any _ _).mono ?_; rw [HC.out]; rintro e w' ⟨rfl, rfl⟩)
    go_ret
    exact ⟨ret_bool HF.out.symm, rfl⟩
  · have HF := Lib.hid (show mayB 6 wt c = false by simp [mayB, hw])
    have hw' : (wt == 0) = false := by simp [hw]
    clear h hw
    go_enter Try.func14, Try.ntmps14
    go_wp2_with (go_at_call 28; refine (class_any _ _).mono ?_; rw [HC.out]; rintro e w' ⟨rfl, rfl⟩)
    go_ret
    exact ⟨ret_bool HF.out.symm, rfl⟩

set_option maxHeartbeats 1000000 in
theorem may_6_3 (wt c : Int) (w : World) (h : 200 ≤ c ∧ c ≤ 299) (hc : classOf c = 3) : Calls Try.prog 14 #[.agg #[.int .u8 6, .int .i64 wt, .int .i64 c]] w (MayPost 6 wt c w) := by
  have HC := Lib.hid hc; clear hc
  by_cases hw : wt = 0
  · subst hw
    have HF := Lib.hid (show mayB 6 0 c = false by simp [mayB, fromB]; omega)
    clear h
    go_enter Try.func14, Try.ntmps14
    go_wp2_with (go_at_call 28; refine (class_any _ _).mono ?_; rw [HC.out]; rintro e w' ⟨rfl, rfl⟩)
    go_ret
    exact ⟨ret_bool HF.out.symm, rfl⟩
  · have HF := Lib.hid (show mayB 6 wt c = false by simp [mayB, hw])
    have hw' : (wt == 0) = false := by simp [hw]
    clear h hw
    go_enter Try.func14, Try.ntmps14
    go_wp2_with (go_at_call 28; refine (class_any _ _).mono ?_; rw [HC.out]; rintro e w' ⟨rfl, rfl⟩)
    go_ret
    exact ⟨ret_bool HF.out.symm, rfl⟩

set_option maxHeartbeats 1000000 in
theorem may_6_4 (wt c : Int) (w : World) (h : 300 ≤ c ∧ c ≤ 699) (hc : classOf c = 4) : Calls Try.prog 14 #[.agg #[.int .u8 6, .int .i64 wt, .int .i64 c]] w (MayPost 6 wt c w) := by
  have HC := Lib.hid hc; clear hc
  by_cases hw : wt = 0
  · subst hw
    have HF := Lib.hid (show mayB 6 0 c = true by simp [mayB, fromB]; omega)
    clear h
    go_enter Try.func14, Try.ntmps14
    go_wp2_with (go_at_call 28; refine (class_any _ _).mono ?_; rw [HC.out]; rintro e w' ⟨rfl, rfl⟩)
    go_ret
    exact ⟨ret_bool HF.out.symm, rfl⟩
  · have HF := Lib.hid (show mayB 6 wt c = false by simp [mayB, hw])
    have hw' : (wt == 0) = false := by simp [hw]
    clear h hw
    go_enter Try.func14, Try.ntmps14
    go_wp2_with (go_at_call 28; refine (class_any _ _).mono ?_; rw [HC.out]; rintro e w' ⟨rfl, rfl⟩)
    go_ret
    exact ⟨ret_bool HF.out.symm, rfl⟩

set_option maxHeartbeats 1000000 in
theorem may_7_0 (wt c : Int) (w : World) (h : c < 100 ∨ 699 < c) (hc : classOf c = 0) : Calls Try.prog 14 #[.agg #[.int .u8 7, .int .i64 wt, .int .i64 c]] w (MayPost 7 wt c w) := by
  have HC := Lib.hid hc; clear hc
  by_cases hw : wt = 0
  · subst hw
    have HF := Lib.hid (show mayB 7 0 c = false by simp [mayB, fromB]; omega)
    clear h
    go_enter Try.func14, Try.ntmps14
    go_wp2_with (go_at_call 28; refine (class_any _ _).mono ?_; rw [HC.out]; rintro e w' ⟨rfl, rfl⟩)
    go_ret
    exact ⟨ret_bool HF.out.symm, rfl⟩
  · have HF := Lib.hid (show mayB 7 wt c = false by simp [mayB, hw])
    have hw' : (wt == 0) = false := by simp [hw]
    clear h hw
    go_enter Try.func14, Try.ntmps14
    go_wp2_with (go_at_call 28; refine (class_any _ _).mono ?_; rw [HC.out]; rintro e w' ⟨rfl, rfl⟩)
    go_ret
    exact ⟨ret_bool HF.out.symm, rfl⟩

set_option maxHeartbeats 1000000 in
theorem may_7_1 (wt c : Int) (w : World) (h : c = 100) (hc : classOf c = 1) : Calls Try.prog 14 #[.agg #[.int .u8 7, .int .i64 wt, .int .i64 c]] w (MayPost 7 wt c w) := by
  have HC := Lib.hid hc; clear hc
  by_cases hw : wt = 0
  · subst hw
    have HF := Lib.hid (show mayB 7 0 c = true by simp [mayB, fromB]; omega)
    clear h
    go_enter Try.func14, Try.ntmps14
    go_wp2_with (go_at_call 28; refine (class_any _ _).mono ?_; rw [HC.out]; rintro e w' ⟨rfl, rfl⟩)
    go_ret
    exact ⟨ret_bool HF.out.symm, rfl⟩
  · have HF := Lib.hid (show mayB 7 wt c = false by simp [mayB, hw])
    have hw' : (wt == 0) = false := by simp [hw]
    clear h hw
    go_enter Try.func14, Try.ntmps14
    go_wp2_with (go_at_call 28; refine (class_any _ _).mono ?_; rw [HC.out]; rintro e w' ⟨rfl, rfl⟩)
    go_ret
    exact ⟨ret_bool HF.out.symm, rfl⟩

set_option maxHeartbeats 1000000 in
theorem may_7_2 (wt c : Int) (w : World) (h : 101 ≤ c ∧ c ≤ 199) (hc : classOf c = 2) : Calls Try.prog 14 #[.agg #[.int .u8 7, .int .i64 wt, .int .i64 c]] w (MayPost 7 wt c w) := by
  have HC := Lib.hid hc; clear hc
  by_cases hw : wt = 0
  · subst hw
    have HF := Lib.hid (show mayB 7 0 c = true by simp [mayB, fromB]; omega)
    clear h
    go_enter Try.func14, Try.ntmps14
    go_wp2_with (go_at_call 28; refine (class_any _ _).mono ?_; rw [HC.out]; rintro e w' ⟨rfl, rfl⟩)
    go_ret
    exact ⟨ret_bool HF.out.symm, rfl⟩
  · have HF := Lib.hid (show mayB 7 wt c = false by simp [mayB, hw])
    have hw' : (wt == 0) = false := by simp [hw]
    clear h hw
    go_enter Try.func14, Try.ntmps14
    go_wp2_with (go_at_call 28; refine (class_any _ _).mono ?_; rw [HC.out]; rintro e w' ⟨rfl, rfl⟩)
    go_ret
    exact ⟨ret_bool HF.out.symm, rfl⟩

set_option maxHeartbeats 1000000 in
theorem may_7_3 (wt c : Int) (w : World) (h : 200 ≤ c ∧ c ≤ 299) (hc : classOf c = 3) : Calls Try.prog 14 #[.agg #[.int .u8 7, .int .i64 wt, .int .i64 c]] w (MayPost 7 wt c w) := by
  have HC := Lib.hid hc; clear hc
  by_cases hw : wt = 0
  · subst hw
    have HF := Lib.hid (show mayB 7 0 c = true by simp [mayB, fromB]; omega)
    clear h
    go_enter Try.func14, Try.ntmps14
    go_wp2_with (go_at_call 28; refine (class_any _ _).mono ?_; rw [HC.out]; rintro e w' ⟨rfl, rfl⟩)
    go_ret
    exact ⟨ret_bool HF.out.symm, rfl⟩
  · have HF := Lib.hid (show mayB 7 wt c = false by simp [mayB, hw])
    have hw' : (wt == 0) = false := by simp [hw]
    clear h hw
    go_enter Try.func14, Try.ntmps14
    go_wp2_with (go_at_call 28; refine (class_any _ _).mono ?_; rw [HC.out]; rintro e w' ⟨rfl, rfl⟩)
    go_ret
    exact ⟨ret_bool HF.out.symm, rfl⟩

set_option maxHeartbeats 1000000 in
theorem may_7_4 (wt c : Int) (w : World) (h : 300 ≤ c ∧ c ≤ 699) (hc : classOf c = 4) : Calls Try.prog 14 #[.agg #[.int .u8 7, .int .i64 wt, .int .i64 c]] w (MayPost 7 wt c w) := by
  have HC := Lib.hid hc; clear hc
  by_cases hw : wt = 0
  · subst hw
    have HF := Lib.hid (show mayB 7 0 c = true by simp [mayB, fromB]; omega)
    clear h
    go_enter Try.func14, Try.ntmps14
    go_wp2_with (go_at_call 28; refine (class_any _ _).mono ?_; rw [HC.out]; rintro e w' ⟨rfl, rfl⟩)
    go_ret
    exact ⟨ret_bool HF.out.symm, rfl⟩
  · have HF := Lib.hid (show mayB 7 wt c = false by simp [mayB, hw])
    have hw' : (wt == 0) = false := by simp [hw]
    clear h hw
    go_enter Try.func14, Try.ntmps14
    go_wp2_with (go_at_call 28; refine (class_any _ _).mono ?_; rw [HC.out]; rintro e w' ⟨rfl, rfl⟩)
    go_ret
    exact ⟨ret_bool HF.out.symm, rfl⟩

set_option maxHeartbeats 1000000 in
theorem may_5_0 (wt c : Int) (w : World) (h : c < 100 ∨ 699 < c) (hc : classOf c = 0) : Calls Try.prog 14 #[.agg #[.int .u8 5, .int .i64 wt, .int .i64 c]] w (MayPost 5 wt c w) := by
  have HC := Lib.hid hc; clear hc
  have HF := Lib.hid (show mayB 5 wt c = false by simp [mayB, fromB]; omega)
  clear h
  go_enter Try.func14, Try.ntmps14
  go_wp2_with (go_at_call 28; refine (class_any _ _).mono ?_; rw [HC.out]; rintro e w' ⟨rfl, rfl⟩)
  go_ret
  exact ⟨ret_bool HF.out.symm, rfl⟩

set_option maxHeartbeats 1000000 in
theorem may_5_1 (wt c : Int) (w : World) (h : c = 100) (hc : classOf c = 1) : Calls Try.prog 14 #[.agg #[.int .u8 5, .int .i64 wt, .int .i64 c]] w (MayPost 5 wt c w) := by
  have HC := Lib.hid hc; clear hc
  have HF := Lib.hid (show mayB 5 wt c = false by simp [mayB, fromB]; omega)
  clear h
  go_enter Try.func14, Try.ntmps14
  go_wp2_with (go_at_call 28; refine (class_any _ _).mono ?_; rw [HC.out]; rintro e w' ⟨rfl, rfl⟩)
  go_ret
  exact ⟨ret_bool HF.out.symm, rfl⟩

set_option maxHeartbeats 1000000 in
theorem may_5_2 (wt c : Int) (w : World) (h : 101 ≤ c ∧ c ≤ 199) (hc : classOf c = 2) : Calls Try.prog 14 #[.agg #[.int .u8 5, .int .i64 wt, .int .i64 c]] w (MayPost 5 wt c w) := by
  have HC := Lib.hid hc; clear hc
  have HF := Lib.hid (show mayB 5 wt c = false by simp [mayB, fromB]; omega)
  clear h
  go_enter Try.func14, Try.ntmps14
  go_wp2_with (go_at_call 28; refine (class_any _ _).mono ?_; rw [HC.out]; rintro e w' ⟨rfl, rfl⟩)
  go_ret
  exact ⟨ret_bool HF.out.symm, rfl⟩

set_option maxHeartbeats 1000000 in
theorem may_5_3 (wt c : Int) (w : World) (h : 200 ≤ c ∧ c ≤ 299) (hc : classOf c = 3) : Calls Try.prog 14 #[.agg #[.int .u8 5, .int .i64 wt, .int .i64 c]] w (MayPost 5 wt c w) := by
  have HC := Lib.hid hc; clear hc
  have HF := Lib.hid (show mayB 5 wt c = false by simp [mayB, fromB]; omega)
  clear h
  go_enter Try.func14, Try.ntmps14
  go_wp2_with (go_at_call 28; refine (class_any _ _).mono ?_; rw [HC.out]; rintro e w' ⟨rfl, rfl⟩)
  go_ret
  exact ⟨ret_bool HF.out.symm, rfl⟩

set_option maxHeartbeats 1000000 in
theorem may_5_4 (wt c : Int) (w : World) (h : 300 ≤ c ∧ c ≤ 699) (hc : classOf c = 4) : Calls Try.prog 14 #[.agg #[.int .u8 5, .int .i64 wt, .int .i64 c]] w (MayPost 5 wt c w) := by
  have HC := Lib.hid hc; clear hc
  by_cases h500 : wt = 500
  · subst h500
    have HF := Lib.hid (show mayB 5 500 c = true by simp [mayB, fromB, wOk]; omega)
    clear h
    go_enter Try.func14, Try.ntmps14
    go_wp2_with (go_at_call 28; refine (class_any _ _).mono ?_; rw [HC.out]; rintro e w' ⟨rfl, rfl⟩)
    go_ret
    exact ⟨ret_bool HF.out.symm, rfl⟩
  have g500 : (wt == 500) = false := by simp [h500]
  by_cases h1000 : wt = 1000
  · subst h1000
    have HF := Lib.hid (show mayB 5 1000 c = true by simp [mayB, fromB, wOk]; omega)
    clear h
    go_enter Try.func14, Try.ntmps14
    go_wp2_with (go_at_call 28; refine (class_any _ _).mono ?_; rw [HC.out]; rintro e w' ⟨rfl, rfl⟩)
    go_ret
    exact ⟨ret_bool HF.out.symm, rfl⟩
  have g1000 : (wt == 1000) = false := by simp [h1000]
  by_cases h2000 : wt = 2000
  · subst h2000
    have HF := Lib.hid (show mayB 5 2000 c = true by simp [mayB, fromB, wOk]; omega)
    clear h
    go_enter Try.func14, Try.ntmps14
    go_wp2_with (go_at_call 28; refine (class_any _ _).mono ?_; rw [HC.out]; rintro e w' ⟨rfl, rfl⟩)
    go_ret
    exact ⟨ret_bool HF.out.symm, rfl⟩
  have g2000 : (wt == 2000) = false := by simp [h2000]
  by_cases h4000 : wt = 4000
  · subst h4000
    have HF := Lib.hid (show mayB 5 4000 c = true by simp [mayB, fromB, wOk]; omega)
    clear h
    go_enter Try.func14, Try.ntmps14
    go_wp2_with (go_at_call 28; refine (class_any _ _).mono ?_; rw [HC.out]; rintro e w' ⟨rfl, rfl⟩)
    go_ret
    exact ⟨ret_bool HF.out.symm, rfl⟩
  have g4000 : (wt == 4000) = false := by simp [h4000]
  have HF := Lib.hid (show mayB 5 wt c = false by simp [mayB, wOk, g500, g1000, g2000, g4000])
  clear h h500 h1000 h2000 h4000
  go_enter Try.func14, Try.ntmps14
  go_wp2_with (go_at_call 28; refine (class_any _ _).mono ?_; rw [HC.out]; rintro e w' ⟨rfl, rfl⟩)
  go_ret
  exact ⟨ret_bool HF.out.symm, rfl⟩

set_option maxHeartbeats 1000000 in
theorem may_o (s wt c : Int) (w : World) (h3 : ¬ s = 3) (h4 : ¬ s = 4) (h5 : ¬ s = 5) (h6 : ¬ s = 6) (h7 : ¬ s = 7) : Calls Try.prog 14 #[.agg #[.int .u8 s, .int .i64 wt, .int .i64 c]] w (MayPost s wt c w) := by
  have HF := Lib.hid (show mayB s wt c = false by simp [mayB, h3, h4, h5, h6, h7])
  have g3 : (s == 3) = false := by simp [h3]
  have g4 : (s == 4) = false := by simp [h4]
  have g5 : (s == 5) = false := by simp [h5]
  have g6 : (s == 6) = false := by simp [h6]
  have g7 : (s == 7) = false := by simp [h7]
  clear h3 h4 h5 h6 h7
  go_enter Try.func14, Try.ntmps14
  go_wp2_with (go_at_call 28; refine (class_any _ _).mono ?_; rintro e w' ⟨rfl, rfl⟩)
  go_ret
  exact ⟨ret_bool HF.out.symm, rfl⟩

theorem may_any (s wt c : Int) (w : World) : Calls Try.prog 14 #[.agg #[.int .u8 s, .int .i64 wt, .int .i64 c]] w (MayPost s wt c w) := by
  by_cases h3 : s = 3
  · subst h3
    rcases class_cases c with h | h | h | h | h
    · exact may_3_0 wt c w h.1 h.2
    · exact may_3_1 wt c w h.1 h.2
    · exact may_3_2 wt c w h.1 h.2
    · exact may_3_3 wt c w h.1 h.2
    · exact may_3_4 wt c w h.1 h.2
  by_cases h4 : s = 4
  · subst h4
    rcases class_cases c with h | h | h | h | h
    · exact may_4_0 wt c w h.1 h.2
    · exact may_4_1 wt c w h.1 h.2
    · exact may_4_2 wt c w h.1 h.2
    · exact may_4_3 wt c w h.1 h.2
    · exact may_4_4 wt c w h.1 h.2
  by_cases h5 : s = 5
  · subst h5
    rcases class_cases c with h | h | h | h | h
    · exact may_5_0 wt c w h.1 h.2
    · exact may_5_1 wt c w h.1 h.2
    · exact may_5_2 wt c w h.1 h.2
    · exact may_5_3 wt c w h.1 h.2
    · exact may_5_4 wt c w h.1 h.2
  by_cases h6 : s = 6
  · subst h6
    rcases class_cases c with h | h | h | h | h
    · exact may_6_0 wt c w h.1 h.2
    · exact may_6_1 wt c w h.1 h.2
    · exact may_6_2 wt c w h.1 h.2
    · exact may_6_3 wt c w h.1 h.2
    · exact may_6_4 wt c w h.1 h.2
  by_cases h7 : s = 7
  · subst h7
    rcases class_cases c with h | h | h | h | h
    · exact may_7_0 wt c w h.1 h.2
    · exact may_7_1 wt c w h.1 h.2
    · exact may_7_2 wt c w h.1 h.2
    · exact may_7_3 wt c w h.1 h.2
    · exact may_7_4 wt c w h.1 h.2
  exact may_o s wt c w h3 h4 h5 h6 h7

set_option maxHeartbeats 1000000 in
theorem short_any (s wt c : Int) (w : World) : Calls Try.prog 40 #[.agg #[.int .u8 s, .int .i64 wt, .int .i64 c]] w fun e w' => e = .returned (.bool (wOk wt)) ∧ w' = w.alloc (.cells #[.int .u8 s, .int .i64 wt, .int .i64 c] 26) := by
  by_cases h500 : wt = 500
  · subst h500
    go_enter Try.func40, Try.ntmps40
    go_wp2
    go_ret
    exact ⟨rfl, rfl⟩
  have g500 : (wt == 500) = false := by simp [h500]
  by_cases h1000 : wt = 1000
  · subst h1000
    go_enter Try.func40, Try.ntmps40
    go_wp2
    go_ret
    exact ⟨rfl, rfl⟩
  have g1000 : (wt == 1000) = false := by simp [h1000]
  by_cases h2000 : wt = 2000
  · subst h2000
    go_enter Try.func40, Try.ntmps40
    go_wp2
    go_ret
    exact ⟨rfl, rfl⟩
  have g2000 : (wt == 2000) = false := by simp [h2000]
  by_cases h4000 : wt = 4000
  · subst h4000
    go_enter Try.func40, Try.ntmps40
    go_wp2
    go_ret
    exact ⟨rfl, rfl⟩
  have g4000 : (wt == 4000) = false := by simp [h4000]
  have HF := Lib.hid (show wOk wt = false by simp [wOk, g500, g1000, g2000, g4000])
  clear h500 h1000 h2000 h4000
  go_enter Try.func40, Try.ntmps40
  go_wp2
  go_ret
  exact ⟨ret_bool HF.out.symm, rfl⟩

def RMayPost (s wt c : Int) (w : World) (e : Ending) (w' : World) : Prop := e = .returned (.bool (mayB s wt c)) ∧ Below w.heap.size w w'

set_option maxHeartbeats 1000000 in
theorem rmay_3 (wt c : Int) (w : World) : Calls Try.prog 32 #[.agg #[.int .u8 3, .int .i64 wt, .int .i64 c]] w (RMayPost 3 wt c w) := by
  by_cases hw : wt = 0
  · subst hw
    have HF := Lib.hid (show mayB 3 0 c = fromB c 100 199 by simp [mayB])
    go_enter Try.func32, Try.ntmps32
    go_wp2_with (first | (go_at_call 39; refine (from_any _ _ _ _).mono ?_; rintro e w' ⟨rfl, rfl⟩) | (go_at_call 40; refine (short_any _ _ _ _).mono ?_; rintro e w' ⟨rfl, rfl⟩))
    go_ret
    exact ⟨ret_bool HF.out.symm, (by repeat (first | exact Below.refl _ _ | refine Below.al _ (by simp; try omega) ?_))⟩
  · have HF := Lib.hid (show mayB 3 wt c = false by simp [mayB, hw])
    have hw' : (wt == 0) = false := by simp [hw]
    clear hw
    go_enter Try.func32, Try.ntmps32
    go_wp2_with (first | (go_at_call 39; refine (from_any _ _ _ _).mono ?_; rintro e w' ⟨rfl, rfl⟩) | (go_at_call 40; refine (short_any _ _ _ _).mono ?_; rintro e w' ⟨rfl, rfl⟩))
    go_ret
    exact ⟨ret_bool HF.out.symm, (by repeat (first | exact Below.refl _ _ | refine Below.al _ (by simp; try omega) ?_))⟩

set_option maxHeartbeats 1000000 in
theorem rmay_4 (wt c : Int) (w : World) : Calls Try.prog 32 #[.agg #[.int .u8 4, .int .i64 wt, .int .i64 c]] w (RMayPost 4 wt c w) := by
  by_cases hw : wt = 0
  · subst hw
    have HF := Lib.hid (show mayB 4 0 c = fromB c 200 299 by simp [mayB])
    go_enter Try.func32, Try.ntmps32
    go_wp2_with (first | (go_at_call 39; refine (from_any _ _ _ _).mono ?_; rintro e w' ⟨rfl, rfl⟩) | (go_at_call 40; refine (short_any _ _ _ _).mono ?_; rintro e w' ⟨rfl, rfl⟩))
    go_ret
    exact ⟨ret_bool HF.out.symm, (by repeat (first | exact Below.refl _ _ | refine Below.al _ (by simp; try omega) ?_))⟩
  · have HF := Lib.hid (show mayB 4 wt c = false by simp [mayB, hw])
    have hw' : (wt == 0) = false := by simp [hw]
    clear hw
    go_enter Try.func32, Try.ntmps32
    go_wp2_with (first | (go_at_call 39; refine (from_any _ _ _ _).mono ?_; rintro e w' ⟨rfl, rfl⟩) | (go_at_call 40; refine (short_any _ _ _ _).mono ?_; rintro e w' ⟨rfl, rfl⟩))
    go_ret
    exact ⟨ret_bool HF.out.symm, (by repeat (first | exact Below.refl _ _ | refine Below.al _ (by simp; try omega) ?_))⟩

set_option maxHeartbeats 1000000 in
theorem rmay_6 (wt c : Int) (w : World) : Calls Try.prog 32 #[.agg #[.int .u8 6, .int .i64 wt, .int .i64 c]] w (RMayPost 6 wt c w) := by
  by_cases hw : wt = 0
  · subst hw
    have HF := Lib.hid (show mayB 6 0 c = fromB c 300 699 by simp [mayB])
    go_enter Try.func32, Try.ntmps32
    go_wp2_with (first | (go_at_call 39; refine (from_any _ _ _ _).mono ?_; rintro e w' ⟨rfl, rfl⟩) | (go_at_call 40; refine (short_any _ _ _ _).mono ?_; rintro e w' ⟨rfl, rfl⟩))
    go_ret
    exact ⟨ret_bool HF.out.symm, (by repeat (first | exact Below.refl _ _ | refine Below.al _ (by simp; try omega) ?_))⟩
  · have HF := Lib.hid (show mayB 6 wt c = false by simp [mayB, hw])
    have hw' : (wt == 0) = false := by simp [hw]
    clear hw
    go_enter Try.func32, Try.ntmps32
    go_wp2_with (first | (go_at_call 39; refine (from_any _ _ _ _).mono ?_; rintro e w' ⟨rfl, rfl⟩) | (go_at_call 40; refine (short_any _ _ _ _).mono ?_; rintro e w' ⟨rfl, rfl⟩))
    go_ret
    exact ⟨ret_bool HF.out.symm, (by repeat (first | exact Below.refl _ _ | refine Below.al _ (by simp; try omega) ?_))⟩

set_option maxHeartbeats 1000000 in
theorem rmay_7 (wt c : Int) (w : World) : Calls Try.prog 32 #[.agg #[.int .u8 7, .int .i64 wt, .int .i64 c]] w (RMayPost 7 wt c w) := by
  by_cases hw : wt = 0
  · subst hw
    have HF := Lib.hid (show mayB 7 0 c = fromB c 100 699 by simp [mayB])
    go_enter Try.func32, Try.ntmps32
    go_wp2_with (first | (go_at_call 39; refine (from_any _ _ _ _).mono ?_; rintro e w' ⟨rfl, rfl⟩) | (go_at_call 40; refine (short_any _ _ _ _).mono ?_; rintro e w' ⟨rfl, rfl⟩))
    go_ret
    exact ⟨ret_bool HF.out.symm, (by repeat (first | exact Below.refl _ _ | refine Below.al _ (by simp; try omega) ?_))⟩
  · have HF := Lib.hid (show mayB 7 wt c = false by simp [mayB, hw])
    have hw' : (wt == 0) = false := by simp [hw]
    clear hw
    go_enter Try.func32, Try.ntmps32
    go_wp2_with (first | (go_at_call 39; refine (from_any _ _ _ _).mono ?_; rintro e w' ⟨rfl, rfl⟩) | (go_at_call 40; refine (short_any _ _ _ _).mono ?_; rintro e w' ⟨rfl, rfl⟩))
    go_ret
    exact ⟨ret_bool HF.out.symm, (by repeat (first | exact Below.refl _ _ | refine Below.al _ (by simp; try omega) ?_))⟩

set_option maxHeartbeats 1000000 in
theorem rmay_5 (wt c : Int) (w : World) : Calls Try.prog 32 #[.agg #[.int .u8 5, .int .i64 wt, .int .i64 c]] w (RMayPost 5 wt c w) := by
  by_cases hw : wOk wt = true
  · have HF := Lib.hid (show mayB 5 wt c = fromB c 300 699 by simp [mayB, hw])
    go_enter Try.func32, Try.ntmps32
    go_wp2_with (first | (go_at_call 39; refine (from_any _ _ _ _).mono ?_; rintro e w' ⟨rfl, rfl⟩) | (go_at_call 40; refine (short_any _ _ _ _).mono ?_; rintro e w' ⟨rfl, rfl⟩))
    go_ret
    exact ⟨ret_bool HF.out.symm, (by repeat (first | exact Below.refl _ _ | refine Below.al _ (by simp; try omega) ?_))⟩
  · have hw' : wOk wt = false := by simpa using hw
    have HF := Lib.hid (show mayB 5 wt c = false by simp [mayB, hw'])
    clear hw
    go_enter Try.func32, Try.ntmps32
    go_wp2_with (first | (go_at_call 39; refine (from_any _ _ _ _).mono ?_; rintro e w' ⟨rfl, rfl⟩) | (go_at_call 40; refine (short_any _ _ _ _).mono ?_; rintro e w' ⟨rfl, rfl⟩))
    go_ret
    exact ⟨ret_bool HF.out.symm, (by repeat (first | exact Below.refl _ _ | refine Below.al _ (by simp; try omega) ?_))⟩

set_option maxHeartbeats 1000000 in
theorem rmay_any (s wt c : Int) (w : World) : Calls Try.prog 32 #[.agg #[.int .u8 s, .int .i64 wt, .int .i64 c]] w (RMayPost s wt c w) := by
  by_cases h3 : s = 3
  · subst h3; exact rmay_3 wt c w
  by_cases h4 : s = 4
  · subst h4; exact rmay_4 wt c w
  by_cases h5 : s = 5
  · subst h5; exact rmay_5 wt c w
  by_cases h6 : s = 6
  · subst h6; exact rmay_6 wt c w
  by_cases h7 : s = 7
  · subst h7; exact rmay_7 wt c w
  have HF := Lib.hid (show mayB s wt c = false by simp [mayB, h3, h4, h5, h6, h7])
  have g3 : (s == 3) = false := by simp [h3]
  have g4 : (s == 4) = false := by simp [h4]
  have g5 : (s == 5) = false := by simp [h5]
  have g6 : (s == 6) = false := by simp [h6]
  have g7 : (s == 7) = false := by simp [h7]
  clear h3 h4 h5 h6 h7
  go_enter Try.func32, Try.ntmps32
  go_wp2
  go_ret
  exact ⟨ret_bool HF.out.symm, (Below.refl _ _).alloc (Nat.le_refl _) _⟩
end Go.Proofs.Ytgjhnaionalbpaa
