/- What the server's step puts out: few outputs, small times. -/
import Derived.Test.YtgjhnaionalbpaaF
namespace Go.Proofs.Ytgjhnaionalbpaa
open Go.RowKit
theorem stepS_len (m : Mach) (i : Inp) : (stepS m i).2.length ≤ 3 := by
  unfold stepS firedS answS
  repeat' split
  all_goals simp
theorem stepS_outs (m : Mach) (i : Inp) : ∀ o ∈ (stepS m i).2, 0 ≤ o.timer ∧ 0 ≤ o.after ∧ o.after ≤ 100000 := by
  obtain ⟨s, wt, c⟩ := m
  by_cases hm : mayB s wt c = false
  · simp [stepS, hm]
  have hm' : mayB s wt c = true := by simpa using hm
  unfold stepS
  rw [if_neg hm]
  by_cases h5 : s = 5
  · subst h5
    have hw := may_wait5 hm'
    simp only [if_true]
    unfold firedS
    repeat' split
    all_goals simp
    omega
  · simp only [h5, if_false]
    unfold answS
    repeat' split
    all_goals simp
def startM : Mach := ⟨3, 0, 100⟩
def startL : List Out := [⟨3, 0, 0, 0⟩, ⟨1, 100, 0, 0⟩]
theorem startL_len : startL.length ≤ 3 := by decide
theorem startL_outs : ∀ o ∈ startL, 0 ≤ o.timer ∧ 0 ≤ o.after ∧ o.after ≤ 100000 := by simp [startL]
theorem start_is (w : World) : Calls Try.prog 18 #[] w (RetMO w startM startL) := start_any w
end Go.Proofs.Ytgjhnaionalbpaa
