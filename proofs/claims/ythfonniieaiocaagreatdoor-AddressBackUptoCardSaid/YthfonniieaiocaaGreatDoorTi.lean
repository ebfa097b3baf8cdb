/- Contract: the reference's Bracketed. Contract: the reference's PrintParams. -/
import Derived.Test.YthfonniieaiocaaGreatDoorWp
import Derived.Test.YthfonniieaiocaaGreatDoorWt
import Derived.Test.YthfonniieaiocaaGreatDoorTf
import Derived.Test.YthfonniieaiocaaGreatDoorXv
import Derived.BigQuiet
import Derived.Deep.CutBlock
import Derived.Deep.DeepCutAuto
set_option linter.unusedVariables false
set_option linter.unusedSimpArgs false
namespace Go.Proofs.YthfonniieaiocaaGreatDoor
open Go.RowKit

end Go.Proofs.YthfonniieaiocaaGreatDoor
namespace Go.Proofs.YthfonniieaiocaaGreatDoor
open Go.RowKit

theorem tok_clean {v : List Int} (h : isToken v = true) : clean v = true := by
  unfold clean
  rw [List.all_eq_true]
  intro c hc
  have h2 := (tok_all h).2 c hc
  unfold isTok at h2
  unfold isCtl
  simp only [Bool.or_eq_true, Bool.and_eq_true, decide_eq_true_eq, beq_iff_eq] at h2
  simp
  omega
theorem brack_clean {v : List Int} (h : brackL v = true) : clean v = true := by
  obtain ⟨_, g, rfl, hg⟩ := brack_form h
  unfold clean
  rw [List.all_eq_true]
  intro c hc
  have h2 : c = 91 ∨ c = 93 ∨ c = 58 ∨ 0 ≤ hexV c := by
    rcases List.mem_cons.1 hc with rfl | hc
    · exact .inl rfl
    · rcases List.mem_append.1 hc with hc | hc
      · rcases hg c hc with h | h
        · exact .inr (.inr (.inl h))
        · exact .inr (.inr (.inr h))
      · exact .inr (.inl (by simpa using hc))
  unfold hexV at h2
  unfold isCtl
  simp
  omega
def refP (p : Pm) : Bool := isToken p.n && ((lowS p.n == p.n) && (clean p.v && (p.h || p.v.isEmpty)))
def txtP (p : Pm) : List Int := 59 :: (p.n ++ if p.h = true then 61 :: valT p.v else [])
theorem pmV_ref (p : Pm) : pmV p = if refP p = true then some (txtP p) else none := by
  obtain ⟨n, v, h⟩ := p
  unfold refP txtP
  dsimp only
  cases ht : isToken n with
  | false => rw [pmV_tok ht]; rfl
  | true =>
    by_cases hl : lowS n = n
    · rw [show (lowS n == n) = true by simpa using hl]
      cases h with
      | false =>
        rw [pmV_has ht hl]
        cases v with
        | nil => simp [clean]
        | cons a r => simp
      | true =>
        rw [pmV_val ht hl]
        unfold valT
        by_cases hv : isToken v = true ∨ brackL v = true
        · have hc : clean v = true := hv.elim tok_clean brack_clean
          rw [if_pos hv, if_pos hv, hc]; rfl
        · rw [if_neg hv, if_neg hv]; cases clean v <;> rfl
    · rw [pmV_low hl, show (lowS n == n) = false by simpa using hl]; rfl
structure PpS (l : List Pm) (j : Nat) (xs : List Int) (R : Option (List Int)) : Prop where
  le : j ≤ 16
  lo : ∀ q ∈ l.take j, lowS q.n = q.n
  s : l.length ≤ 16 → R = (ppsN (l.drop j) (l.take j)).map fun s => xs ++ s
  b : 16 < l.length → R = none
theorem PpS.start (l : List Pm) : PpS l 0 [] (ppsL l) := by
  refine ⟨Nat.zero_le _, fun q hq => by simp at hq, fun h => ?_, fun h => ?_⟩
  · unfold ppsL; rw [if_neg (by omega), List.drop_zero, List.take_zero]; cases ppsN l [] <;> rfl
  · unfold ppsL; rw [if_pos h]
theorem PpS.room {l : List Pm} {j : Nat} {xs : List Int} {R : Option (List Int)} {p : Pm} (h : PpS l j xs R) (hj : j < l.length) (hr : refP p = true) : roomF (l.take j) p.n = if holdsL (l.take j) p.n = true then 7 else if 16 ≤ j then 4 else 0 := by
  unfold refP at hr
  simp only [Bool.and_eq_true, beq_iff_eq] at hr
  have hp := hr.2.1
  unfold roomF holdsL
  rw [List.length_take, Nat.min_eq_left (by omega)]
  have : ((l.take j).any fun q => lowS q.n == lowS p.n) = (l.take j).any fun q => q.n == p.n := by
    rw [Bool.eq_iff_iff, List.any_eq_true, List.any_eq_true]
    constructor
    · rintro ⟨q, hq, e⟩
      exact ⟨q, hq, by rw [h.lo q hq, hp] at e; exact e⟩
    · rintro ⟨q, hq, e⟩
      exact ⟨q, hq, by rw [h.lo q hq, hp]; exact e⟩
  rw [this]
def goodB (l : List Pm) (j : Nat) (p : Pm) : Bool := refP p && (roomF (l.take j) p.n == 0)
theorem PpS.bad {l : List Pm} {j : Nat} {xs : List Int} {R : Option (List Int)} {p : Pm} (h : PpS l j xs R) (hp : l[j]? = some p) (hb : goodB l j p = false) : R = none := by
  have hj : j < l.length := (List.getElem?_eq_some_iff.1 hp).1
  by_cases hl : 16 < l.length
  · exact h.b hl
  · rw [h.s (by omega), dropPm hp, ppsN_cons]
    by_cases ho : holdsL (l.take j) p.n = true
    · rw [if_pos ho]; rfl
    · rw [if_neg ho, pmV_ref]
      unfold goodB at hb
      cases hr : refP p with
      | false => rw [if_neg (by decide)]; rfl
      | true =>
        rw [hr, h.room hj hr, if_neg ho, if_neg (by omega)] at hb
        cases hb
theorem PpS.next {l : List Pm} {j : Nat} {xs : List Int} {R : Option (List Int)} {p : Pm} (h : PpS l j xs R) (hp : l[j]? = some p) (hb : goodB l j p = true) : PpS l (j + 1) (xs ++ txtP p) R := by
  have hj : j < l.length := (List.getElem?_eq_some_iff.1 hp).1
  unfold goodB at hb
  simp only [Bool.and_eq_true, beq_iff_eq] at hb
  obtain ⟨hr, hm⟩ := hb
  rw [h.room hj hr] at hm
  have ho : ¬ holdsL (l.take j) p.n = true := fun ho => by rw [if_pos ho] at hm; cases hm
  rw [if_neg ho] at hm
  have h16 : ¬ 16 ≤ j := fun h16 => by rw [if_pos h16] at hm; cases hm
  have ht : l.take (j + 1) = l.take j ++ [p] := by rw [List.take_add_one, hp]; rfl
  refine ⟨by omega, fun q hq => ?_, fun hl => ?_, h.b⟩
  · rw [ht] at hq
    rcases List.mem_append.1 hq with hq | hq
    · exact h.lo q hq
    · rw [List.mem_singleton] at hq
      subst hq
      unfold refP at hr
      simp only [Bool.and_eq_true, beq_iff_eq] at hr
      exact hr.2.1
  · rw [h.s hl, dropPm hp, ppsN_cons, if_neg ho, pmV_ref, if_pos hr, ht]
    cases ppsN (l.drop (j + 1)) (l.take j ++ [p]) with
    | none => rfl
    | some s => simp
theorem PpS.end {l : List Pm} {xs : List Int} {R : Option (List Int)} (h : PpS l l.length xs R) : R = some xs := by
  rw [h.s h.le, List.drop_length]; simp [ppsN]
end Go.Proofs.YthfonniieaiocaaGreatDoor
