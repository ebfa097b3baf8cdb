/- Contracts: the reference's index, display. And what stands behind it. -/
import Derived.Test.YthfonniieaiocaaGreatDoorWf
import Derived.Test.YthfonniieaiocaaGreatDoorCr
import Derived.Test.YthfonniieaiocaaGreatDoorLl
import Derived.Test.YthfonniieaiocaaGreatDoorWp
import Derived.Lib.MinMax
import Derived.Test.YthfonniieaiocaaGreatDoorXf
import Derived.Test.YthfonniieaiocaaGreatDoorXl
set_option linter.unusedVariables false
set_option linter.unusedSimpArgs false
namespace Go.Proofs.YthfonniieaiocaaGreatDoor
open Go.RowKit

theorem str_append (a b : List Int) : strOfNums a ++ strOfNums b = strOfNums (a ++ b) := by
  unfold strOfNums
  simp [ByteArray.ext_iff]

structure PsF (l : List Pm) : Prop where
  sz : ∀ p ∈ l, pmSz p
  low : ∀ p ∈ l, lowS p.n = p.n
  len : l.length ≤ 16
theorem PsF.nil : PsF [] := ⟨(fun p h => by cases h), (fun p h => by cases h), by decide⟩
theorem PsF.snoc {l : List Pm} {p : Pm} (h : PsF l) (h1 : pmSz p) (h2 : lowS p.n = p.n) (h3 : roomL l p.n = 0) : PsF (l ++ [p]) := by
  refine ⟨fun q hq => ?_, fun q hq => ?_, by rw [List.length_append, List.length_singleton]; have := roomL_zero h3; omega⟩
  · rcases List.mem_append.1 hq with h0 | h0
    · exact h.sz q h0
    · rw [List.mem_singleton] at h0; subst h0; exact h1
  · rcases List.mem_append.1 hq with h0 | h0
    · exact h.low q h0
    · rw [List.mem_singleton] at h0; subst h0; exact h2
end Go.Proofs.YthfonniieaiocaaGreatDoor
