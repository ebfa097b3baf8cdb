/- Plain words: what a challenge says; the names of its fields. -/
import Derived.Test.YtfhbpgickkibmaaDoorPf
namespace Go.Proofs.YtfhbpgickkibmaaDoor
open Go.RowKit

structure Ch where
  r : List Int
  n : List Int
  o : List Int
  i : Bool
  s : Bool
def chC (c : Ch) : List Value := [.string (strOfNums c.r), .string (strOfNums c.n), .string (strOfNums c.o), .bool c.i, .bool c.s]
def gotF (l : List (List Int × List Int)) (nm : List Int) : List Int := (getF l nm).getD []
def wordsL (xs : List Int) : List (List Int) := (cutL 44 xs).map trimB
def REALM : List Int := [114, 101, 97, 108, 109]
def NONCE : List Int := [110, 111, 110, 99, 101]
def OPAQUE : List Int := [111, 112, 97, 113, 117, 101]
def STALE : List Int := [115, 116, 97, 108, 101]
def ALG : List Int := [97, 108, 103, 111, 114, 105, 116, 104, 109]
def QOP : List Int := [113, 111, 112]
def SHA : List Int := [115, 104, 97, 45, 50, 53, 54]
def TRUE : List Int := [116, 114, 117, 101]
def AUTH : List Int := [97, 117, 116, 104]
def AUTHI : List Int := [97, 117, 116, 104, 45, 105, 110, 116]
def parseCh (xs : List Int) : Except Int Ch := match fieldsL xs with
  | .error k => .error k
  | .ok l => if (getF l REALM).isSome = false ∨ (getF l NONCE).isSome = false then .error 8
    else if lowS (gotF l ALG) ≠ SHA ∨ (wordsL (gotF l QOP)).contains AUTH = false then .error 15
    else .ok ⟨gotF l REALM, gotF l NONCE, gotF l OPAQUE, (wordsL (gotF l QOP)).contains AUTHI, lowS (gotF l STALE) == TRUE⟩
def chV : Except Int Ch → Value
  | .error k => .tuple #[.agg #[.string ⟨#[]⟩, .string ⟨#[]⟩, .string ⟨#[]⟩, .bool false, .bool false], .int .u8 k]
  | .ok c => .tuple #[.agg (chC c).toArray, .int .u8 0]
theorem addAll_err : ∀ (ps : List (List Int)) (acc : List (List Int × List Int)) (k : Int), addAll acc ps = .error k → k ≠ 0
  | [], acc, k, h => by rw [addAll] at h; cases h
  | p :: ps, acc, k, h => by
    rw [addAll] at h
    cases hf : addF acc p with
    | error e =>
      rw [hf] at h
      cases h
      unfold addF at hf
      split at hf
      · cases hf; decide
      · split at hf
        · cases hf; decide
        · cases hf
    | ok a =>
      rw [hf] at h
      exact addAll_err ps a k h
theorem fieldsL_err {xs : List Int} {k : Int} (h : fieldsL xs = .error k) : k ≠ 0 := by
  unfold fieldsL at h
  split at h
  · cases h; decide
  · split at h
    · rename_i h2; cases h; exact h2
    · exact addAll_err _ _ _ h
theorem getF_ok {l : List (List Int × List Int)} {nm v : List Int} (hl : ∀ q ∈ l, fldOK 4000000 q) (h : getF l nm = some v) : By v ∧ v.length ≤ 4000000 := by
  unfold getF at h
  rw [Option.map_eq_some_iff] at h
  obtain ⟨q, hq, rfl⟩ := h
  obtain ⟨_, h2, _, h4, _⟩ := hl q (List.mem_of_find?_eq_some hq)
  exact ⟨h2, h4⟩
theorem gotF_ok {l : List (List Int × List Int)} (nm : List Int) (hl : ∀ q ∈ l, fldOK 4000000 q) : By (gotF l nm) ∧ (gotF l nm).length ≤ 4000000 := by
  unfold gotF
  cases h : getF l nm with
  | none => exact ⟨(fun x hx => by cases hx), Nat.zero_le _⟩
  | some v => exact getF_ok hl h
theorem cutL_sub (sep : Int) : ∀ xs : List Int, (∀ p ∈ cutL sep xs, p.Sublist xs) ∧ (cutL sep xs).length ≤ xs.length + 1
  | [] => ⟨fun p hp => by unfold cutL at hp; rw [List.mem_singleton] at hp; subst hp; exact List.Sublist.refl _, by unfold cutL; simp⟩
  | c :: r => by
    have ih := cutL_sub sep r
    by_cases h : c = sep
    · subst h
      rw [cutL_hit]
      refine ⟨fun p hp => ?_, by simp; exact ih.2⟩
      rcases List.mem_cons.1 hp with rfl | hp
      · exact List.nil_sublist _
      · exact (ih.1 p hp).cons _
    · rw [cutL_no _ _ _ h]
      cases hc : cutL sep r with
      | nil =>
        refine ⟨fun p hp => ?_, by simp [glue]⟩
        unfold glue at hp
        rw [List.mem_singleton] at hp
        subst hp
        exact (List.nil_sublist r).cons_cons c
      | cons q qs =>
        rw [hc] at ih
        refine ⟨fun p hp => ?_, by have := ih.2; simp [glue] at this ⊢; omega⟩
        unfold glue at hp
        rcases List.mem_cons.1 hp with rfl | hp
        · exact (ih.1 q (by simp)).cons_cons c
        · exact (ih.1 p (by simp [hp])).cons _
theorem wordsL_by {xs : List Int} (h : By xs) : ∀ p ∈ wordsL xs, By p := fun p hp => by
  unfold wordsL at hp
  obtain ⟨q, hq, rfl⟩ := List.mem_map.1 hp
  exact h.sub ((trimB_sub q).trans ((cutL_sub 44 xs).1 q hq))
end Go.Proofs.YtfhbpgickkibmaaDoor
