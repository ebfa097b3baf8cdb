/- What the client's step puts out: few outputs, small times. -/
import Derived.Test.YtdooohanhekniaaP
namespace Go.Proofs.Ytdooohanhekniaa
open Go.RowKit
theorem stepS_outs (m : Mach) (i : Inp) : ∀ o ∈ (stepS m i).2, 0 ≤ o.timer ∧ 0 ≤ o.after ∧ o.after ≤ 100000 := by
  obtain ⟨s, wt, c⟩ := m
  by_cases hm : mayB s wt c = false
  · simp [stepS, hm]
  have hm' : mayB s wt c = true := by simpa using hm
  unfold stepS
  rw [if_neg hm]
  repeat' split
  · unfold respS; repeat' split
    all_goals simp
  · unfold timS; repeat' split
    · rename_i h; simp only at h; obtain ⟨rfl, _⟩ := h
      have := may_wait1 hm'
      simp; omega
    all_goals simp
  · unfold failS; split <;> simp
  · simp
end Go.Proofs.Ytdooohanhekniaa
namespace Go.Proofs.Ytdooohanhekniaa
def startM : Mach := ⟨1, 500, 0⟩
def startL : List Out := [⟨1, 0, 0, 0⟩, ⟨4, 0, 1, 500⟩, ⟨4, 0, 2, 32000⟩]
theorem startL_len : startL.length ≤ 3 := by decide
theorem startL_outs : ∀ o ∈ startL, 0 ≤ o.timer ∧ 0 ≤ o.after ∧ o.after ≤ 100000 := by simp [startL]
theorem start_is (w : World) : Calls Try.prog 16 #[] w (RetMO w startM startL) := start_any w
end Go.Proofs.Ytdooohanhekniaa
