/- Plain words: the fields as parameters; what all fields hold. -/
import Derived.Test.YtfhbpgickkibmaaGreatDoorPe
import Derived.Test.YtfhbpgickkibmaaGreatDoorMc
namespace Go.Proofs.YtfhbpgickkibmaaGreatDoor
open Go.RowKit

def prmOf (q : List Int × List Int) : Prm := ⟨q.1, q.2, true⟩
theorem addF_ok {acc acc' : List (List Int × List Int)} {p : List Int} (hp : By p) (hl : p.length ≤ 4000000) (ha : ∀ q ∈ acc, fldOK 4000000 q) (h : addF acc p = .ok acc') : (∀ q ∈ acc', fldOK 4000000 q) ∧ acc'.length = acc.length + 1 := by
  unfold addF at h
  split at h
  · cases h
  · rename_i f hf
    split at h
    · cases h
    · cases h
      refine ⟨fun q hq => ?_, by simp⟩
      rcases List.mem_append.1 hq with h1 | h1
      · exact ha q h1
      · rw [List.mem_singleton] at h1
        subst h1
        obtain ⟨a1, a2, a3, a4, a5⟩ := fldL_ok hp hf
        exact ⟨a1, a2, by omega, by omega, a5⟩
theorem addAll_ok : ∀ (ps : List (List Int)) (acc acc' : List (List Int × List Int)), (∀ p ∈ ps, By p ∧ p.length ≤ 4000000) → (∀ q ∈ acc, fldOK 4000000 q) → addAll acc ps = .ok acc' → (∀ q ∈ acc', fldOK 4000000 q) ∧ acc'.length = acc.length + ps.length
  | [], acc, acc', _, ha, h => by rw [addAll] at h; cases h; exact ⟨ha, rfl⟩
  | p :: ps, acc, acc', hp, ha, h => by
    rw [addAll] at h
    cases hf : addF acc p with
    | error e => rw [hf] at h; cases h
    | ok a =>
      rw [hf] at h
      have h1 := addF_ok (hp p (by simp)).1 (hp p (by simp)).2 ha hf
      have h2 := addAll_ok ps a acc' (fun q hq => hp q (by simp [hq])) h1.1 h
      exact ⟨h2.1, by rw [h2.2, h1.2, List.length_cons]; omega⟩
theorem fieldsL_ok {xs : List Int} {l : List (List Int × List Int)} (hx : By xs) (hl : xs.length ≤ 4000000) (h : fieldsL xs = .ok l) : (∀ q ∈ l, fldOK 4000000 q) ∧ l.length ≤ 4000001 := by
  unfold fieldsL at h
  split at h
  · cases h
  · split at h
    · cases h
    · have hs := (List.drop_sublist 6 (trimB xs)).trans (trimB_sub xs)
      have ho := splitL_ok ((trimB xs).drop 6) 44
      have h1 := addAll_ok _ _ _ (fun p hp => by
        obtain ⟨q, hq, rfl⟩ := List.mem_map.1 hp
        have h2 := (ho.1 q hq).trans hs
        exact ⟨hx.sub h2, by have := h2.length_le; omega⟩) (fun q hq => by cases hq) h
      refine ⟨h1.1, ?_⟩
      have h3 := hs.length_le
      rw [h1.2, List.length_map]
      have := ho.2
      simp
      omega
end Go.Proofs.YtfhbpgickkibmaaGreatDoor
