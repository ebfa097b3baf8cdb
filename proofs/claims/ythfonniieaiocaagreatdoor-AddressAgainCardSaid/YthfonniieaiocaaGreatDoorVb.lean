/- Plain law: the reference's host is the host. Plain laws: equal addresses; insertion from behind; a content read in place. -/
import Derived.Test.YthfonniieaiocaaGreatDoorBp
import Derived.Test.YthfonniieaiocaaGreatDoorBr
set_option linter.unusedVariables false
set_option linter.unusedSimpArgs false
namespace Go.Proofs.YthfonniieaiocaaGreatDoor
open Go.RowKit

theorem cut_sum (c : Int) : ∀ s : List Int, ((cutL c s).map (fun p => p.length + 1)).sum = s.length + 1
  | [] => rfl
  | d :: r => by
    have ih := cut_sum c r
    by_cases h : d = c
    · subst h
      rw [cutL_hit]
      simp only [List.map_cons, List.sum_cons, List.length_nil, List.length_cons]
      omega
    · rw [cutL_no c d r h]
      cases hq : cutL c r with
      | nil => rw [hq] at ih; simp at ih
      | cons q qs =>
        rw [hq] at ih
        simp only [glue, List.map_cons, List.sum_cons, List.length_append, List.length_cons, List.length_nil] at ih ⊢
        omega
theorem sum_le {l : List (List Int)} {k : Nat} (h : ∀ p ∈ l, p.length ≤ k) : (l.map (fun p => p.length + 1)).sum ≤ (k + 1) * l.length := by
  induction l with
  | nil => simp
  | cons p l ih =>
    have h1 := h p (by simp)
    have h2 := ih fun q hq => h q (List.mem_cons_of_mem _ hq)
    simp only [List.map_cons, List.sum_cons, List.length_cons, Nat.mul_add, Nat.mul_one]
    omega
/-- A number of a host, as the reference takes it. -/
def rnum (n : List Int) : Bool := (decide (1 ≤ n.length) && decide (n.length ≤ 3)) && ((!(decide (1 < n.length) && n.getD 0 0 == 48)) && (n.all isDig && decide (valL n ≤ 255)))
def rhostD (s : List Int) : Option (List Int) := if (cutL 46 s).all labOK = true ∧ s.length ≤ 255 ∧ ((cutL 46 s).any wordL = true ∨ ((cutL 46 s).length = 4 ∧ (cutL 46 s).all rnum = true)) then some (lowS s) else none
/-- Superfluous zeros taken away. -/
def rstrip : List Int → List Int
  | [] => []
  | [c] => [c]
  | c :: d :: r => if c = 48 then rstrip (d :: r) else c :: d :: r
theorem grpN_eq (g : List Int) : grpN g = if (lowS g).dropWhile (· == 48) = [] then [48] else (lowS g).dropWhile (· == 48) := rfl
/-- What stands in brackets, as the reference takes it. -/
def rsixL (s : List Int) : Option (List Int) :=
  match dblL s with
  | some p => (match sideL p.1, sideL p.2 with
    | some x, some y => if 7 < x.length + y.length then none else some (joinL [58] x ++ [58, 58] ++ joinL [58] y)
    | _, _ => none)
  | none => match sideL s with
    | some l => if l.length = 8 then some (joinL [58] l) else none
    | none => none
theorem side_len {s : List Int} {x : List (List Int)} (h : sideL s = some x) : s.length + 1 ≤ 5 * x.length + 1 := by
  unfold sideL at h
  split at h
  · rename_i h0; injection h with h; subst h; subst h0; simp
  · unfold grpL at h
    split at h
    · rename_i h1
      injection h with h
      subst h
      rw [List.length_map]
      have h2 : ∀ p ∈ cutL 58 s, p.length ≤ 4 := fun p hp => (grpOK_iff.1 (List.all_eq_true.1 h1 p hp)).1.2
      have h3 := sum_le h2
      rw [cut_sum] at h3
      omega
    · cases h
theorem dbl_len : ∀ {s : List Int} {p : List Int × List Int}, dblL s = some p → p.1.length + p.2.length + 2 = s.length
  | [], _, h => by cases h
  | [_], _, h => by cases h
  | c :: d :: r, p, h => by
    unfold dblL at h
    split at h
    · injection h with h; subst h; simp
    · cases hq : dblL (d :: r) with
      | none => rw [hq] at h; cases h
      | some q =>
        rw [hq] at h
        injection h with h
        subst h
        have := dbl_len hq
        simp only [List.length_cons] at this ⊢
        omega
theorem rsixL_eq (s : List Int) : rsixL s = groupsL s := by
  unfold rsixL groupsL
  cases hd : dblL s with
  | some p =>
    dsimp only
    by_cases h39 : 39 < s.length
    · rw [if_pos h39]
      cases hx : sideL p.1 with
      | none => rfl
      | some x =>
        cases hy : sideL p.2 with
        | none => rfl
        | some y =>
          dsimp only
          have h1 := side_len hx
          have h2 := side_len hy
          have h3 := dbl_len hd
          rw [if_pos (by omega)]
    · rw [if_neg h39]
      cases sideL p.1 <;> rfl
  | none =>
    dsimp only
    by_cases h0 : s = []
    · subst h0; rfl
    · have hs : sideL s = grpL s := if_neg h0
      by_cases h39 : 39 < s.length
      · rw [if_pos h39]
        cases hl : sideL s with
        | none => rfl
        | some l =>
          have h1 := side_len hl
          dsimp only
          by_cases h8 : l.length = 8
          · -- eight groups: at most 39 characters
            exfalso
            rw [hs] at hl
            unfold grpL at hl
            split at hl
            · rename_i h2
              injection hl with hl
              subst hl
              rw [List.length_map] at h8
              have h3 : ∀ p ∈ cutL 58 s, p.length ≤ 4 := fun p hp => (grpOK_iff.1 (List.all_eq_true.1 h2 p hp)).1.2
              have h4 := sum_le h3
              rw [cut_sum, h8] at h4
              omega
            · cases hl
          · rw [if_neg h8]
      · rw [if_neg h39, hs]; rfl
/-- A host, as the reference takes it. -/
def rhostL (s : List Int) : Option (List Int) := if 2 ≤ s.length ∧ s.getD 0 0 = 91 ∧ s.getD (s.length - 1) 0 = 93 then (rsixL (subL s 1 (s.length - 1))).map fun g => [91] ++ g ++ [93] else rhostD s
end Go.Proofs.YthfonniieaiocaaGreatDoor
namespace Go.Proofs.YthfonniieaiocaaGreatDoor
open Go.RowKit

def pmK (p : Pm) : List Int × List Int × Bool := (p.n, p.v, p.h)
theorem pmK_inj {l m : List Pm} (h : l.map pmK = m.map pmK) : l = m := by
  induction l generalizing m with
  | nil => cases m with
    | nil => rfl
    | cons _ _ => cases h
  | cons p l ih =>
    cases m with
    | nil => cases h
    | cons q m =>
      rw [List.map_cons, List.map_cons] at h
      injection h with h1 h2
      obtain ⟨a, b, c⟩ := p
      obtain ⟨d, e, f⟩ := q
      unfold pmK at h1
      injection h1 with h1 h3
      injection h3 with h3 h4
      dsimp only at h1 h3 h4
      rw [ih h2, h1, h3, h4]
/-- Two lists of parameters are the same. -/
def samePs (l m : List Pm) : Bool := l.map pmK == m.map pmK
theorem samePs_iff {l m : List Pm} : samePs l m = true ↔ l = m := by
  unfold samePs
  rw [beq_iff_eq]
  exact ⟨pmK_inj, fun h => by rw [h]⟩
def sameU (x y : Uri) : Bool := (((((x.sc == y.sc) && (x.us == y.us)) && (x.ho == y.ho)) && decide (x.po = y.po)) && samePs x.ps y.ps) && samePs x.hs y.hs
theorem sameU_iff {x y : Uri} : sameU x y = true ↔ x = y := by
  unfold sameU
  simp only [Bool.and_eq_true, beq_iff_eq, decide_eq_true_eq, samePs_iff]
  constructor
  · rintro ⟨⟨⟨⟨⟨h1, h2⟩, h3⟩, h4⟩, h5⟩, h6⟩
    obtain ⟨a, b, c, d, e, f⟩ := x
    obtain ⟨a', b', c', d', e', f'⟩ := y
    dsimp only at h1 h2 h3 h4 h5 h6
    rw [h1, h2, h3, h4, h5, h6]
  · rintro rfl; exact ⟨⟨⟨⟨⟨rfl, rfl⟩, rfl⟩, rfl⟩, rfl⟩, rfl⟩
/-- Two addresses have the same normal form. -/
def eqU (u v : Uri) : Bool := match normL u, normL v with
  | some x, some y => sameU x y
  | _, _ => false
def upB (c : Int) : Int := if 97 ≤ c ∧ c ≤ 122 then c - 32 else c
def upPm (p : Pm) : Pm := ⟨p.n.map upB, p.v, p.h⟩
/-- Parameters in the opposite order, with letters of the other case in their names. -/
def turnPm (l : List Pm) : List Pm := l.reverse.map upPm
end Go.Proofs.YthfonniieaiocaaGreatDoor
