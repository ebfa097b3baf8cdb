/- Contracts: the reference's rest of an address, an address without brackets. Contracts: the reference's bare, ParseAddress. Contract: the reference's ParseAddress. The law AddressReads. -/
import Derived.Test.YthfonniieaiocaaGreatDoorXv
import Derived.Test.YthfonniieaiocaaGreatDoorXq
import Derived.Test.YthfonniieaiocaaGreatDoorUx
import Derived.Test.YthfonniieaiocaaGreatDoorWu
set_option linter.unusedVariables false
set_option linter.unusedSimpArgs false
namespace Go.Proofs.YthfonniieaiocaaGreatDoor
open Go.RowKit

end Go.Proofs.YthfonniieaiocaaGreatDoor
namespace Go.Proofs.YthfonniieaiocaaGreatDoor
open Go.RowKit

end Go.Proofs.YthfonniieaiocaaGreatDoor
namespace Go.Proofs.YthfonniieaiocaaGreatDoor
open Go.RowKit

end Go.Proofs.YthfonniieaiocaaGreatDoor
namespace Go.Proofs.YthfonniieaiocaaGreatDoor
open Go.RowKit

theorem pars_sz {X : List Int} (hX : By X) : ∀ (f a : Nat) (l m : List Pm), a ≤ X.length → (∀ p ∈ l, (By p.n ∧ By p.v) ∧ p.n.length ≤ X.length ∧ p.v.length ≤ X.length) → parsN X f a l = .ok m → ∀ p ∈ m, (By p.n ∧ By p.v) ∧ p.n.length ≤ X.length ∧ p.v.length ≤ X.length
  | 0, a, l, m, _, hl, h => by unfold parsN at h; injection h with h; subst h; exact hl
  | f + 1, a, l, m, ha, hl, h => by
    rw [parsN_eq rfl rfl] at h
    have a0s : skipTo isBlank X a ≤ X.length := skip_le ha
    by_cases h1 : X.length ≤ skipTo isBlank X a
    · rw [if_pos h1] at h; injection h with h; subst h; exact hl
    rw [if_neg h1] at h
    by_cases h2 : X.getD (skipTo isBlank X a) 0 ≠ 59
    · rw [if_pos h2] at h; cases h
    rw [if_neg h2] at h
    have a1s : skipTo isBlank X (skipTo isBlank X a + 1) ≤ X.length := skip_le (by omega)
    cases hr : listedH X (skipTo isBlank X (skipTo isBlank X a + 1)) with
    | error e => rw [hr] at h; cases h
    | ok q =>
      obtain ⟨p, a2⟩ := q
      rw [hr] at h
      dsimp only at h
      obtain ⟨o1, o2, o3, o4, o5, o6⟩ := listedH_ok hX a1s hr
      by_cases h3 : roomL l p.n ≠ 0
      · rw [if_pos h3] at h; cases h
      · rw [if_neg h3] at h
        refine pars_sz hX f a2 (l ++ [p]) m o6 (fun q hq => ?_) h
        rcases List.mem_append.1 hq with hq | hq
        · exact hl q hq
        · rw [List.mem_singleton] at hq; subst hq; exact ⟨⟨o1, o2⟩, o3, o4⟩
end Go.Proofs.YthfonniieaiocaaGreatDoor
