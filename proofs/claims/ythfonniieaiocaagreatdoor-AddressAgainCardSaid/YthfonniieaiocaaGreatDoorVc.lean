/- Plain law: parameters and addresses that are printed are read as the same. -/
import Derived.Test.YthfonniieaiocaaGreatDoorVb
set_option linter.unusedVariables false
set_option linter.unusedSimpArgs false
namespace Go.Proofs.YthfonniieaiocaaGreatDoor
open Go.RowKit

def brackL (v : List Int) : Bool := (hostL v == some v) && v.getD 0 0 == 91
/-- The text of a parameter. -/
def pmV (p : Pm) : Option (List Int) :=
  if isToken p.n = false ∨ lowS p.n ≠ p.n then none
  else if p.h = false then (if p.v = [] then some (59 :: p.n) else none)
  else if isToken p.v = true ∨ brackL p.v = true then some (59 :: (p.n ++ 61 :: p.v))
  else if clean p.v = true then some (59 :: (p.n ++ 61 :: quoteL p.v))
  else none
/-- The texts of the parameters behind others. -/
def ppsN : List Pm → List Pm → Option (List Int)
  | [], _ => some []
  | p :: r, sn => if holdsL sn p.n = true then none else match pmV p, ppsN r (sn ++ [p]) with
    | some t, some s => some (t ++ s)
    | _, _ => none
def ppsL (l : List Pm) : Option (List Int) := if 16 < l.length then none else ppsN l []
def adrT (d u s : List Int) : List Int := (if d = [] then [] else quoteL d ++ [32]) ++ 60 :: (u ++ 62 :: s)
def prAdr (a : Adr) : Option (List Int) :=
  if clean a.ds = false then none else
  match printU a.u, ppsL (sortPm a.ps) with
  | some u, some s => some (adrT a.ds u s)
  | _, _ => none
theorem listedH_eq {xs : List Int} {a e1 a1 a2 : Nat} (h1 : skipTo isTok xs a = e1) (h2 : skipTo isBlank xs e1 = a1) (h3 : skipTo isBlank xs (a1 + 1) = a2) : listedH xs a =
    if e1 = a then .error (e1, 5)
    else if atL xs a1 61 = false then .ok (⟨lowS (subL xs a e1), [], false⟩, a1)
    else if atL xs a2 34 = true then (if (unq xs (a2 : Nat)).2.2 ≠ 0 then .error ((unq xs (a2 : Nat)).2.1, (unq xs (a2 : Nat)).2.2) else .ok (⟨lowS (subL xs a e1), (unq xs (a2 : Nat)).1, true⟩, (unq xs (a2 : Nat)).2.1))
    else if atL xs a2 91 = true then
      (match hostL (subL xs a2 (min (untilL xs a2 [93] + 1) xs.length)) with
      | none => .error (a2, 5)
      | some h => .ok (⟨lowS (subL xs a e1), h, true⟩, untilL xs a2 [93] + 1))
    else if skipTo isTok xs a2 = a2 then .error (a2, 5) else .ok (⟨lowS (subL xs a e1), subL xs a2 (skipTo isTok xs a2), true⟩, skipTo isTok xs a2) := by
  subst h1 h2 h3; rfl
def Sep (r : List Int) : Prop := r = [] ∨ r.getD 0 0 = 59
theorem Sep.or {r : List Int} (h : Sep r) {f : Int → Bool} (hf : f 59 = false) : r = [] ∨ f (r.getD 0 0) = false := by
  rcases h with h | h
  · exact .inl h
  · right; rw [h]; exact hf
theorem Sep.at {r : List Int} (h : Sep r) (p : List Int) {d : Int} (hd : d ≠ 59) : atL (p ++ r) p.length d = false := by
  rcases h with rfl | h
  · rw [List.append_nil]; exact atL_end (Nat.le_refl _)
  · cases r with
    | nil => rw [List.append_nil]; exact atL_end (Nat.le_refl _)
    | cons c r =>
      rw [atL_seg]
      have : c = 59 := h
      subst this
      simpa using fun e => hd e.symm
theorem parsN_eq {xs : List Int} {f a a0 a1 : Nat} {l : List Pm} (h0 : skipTo isBlank xs a = a0) (h1 : skipTo isBlank xs (a0 + 1) = a1) : parsN xs (f + 1) a l =
    if xs.length ≤ a0 then .ok l else if xs.getD a0 0 ≠ 59 then .error (a0, 5) else
    match listedH xs a1 with
    | .error e => .error e
    | .ok (p, a2) => if roomL l p.n ≠ 0 then .error (a1, roomL l p.n) else parsN xs f a2 (l ++ [p]) := by subst h0; subst h1; rfl
theorem wordsN_at {xs : List Int} {f a : Nat} {l : List (List Int)} (h : atL xs a 60 = true) : wordsN xs (f + 1) a l = .ok (l, a) := by
  unfold wordsN; rw [if_pos h]
theorem nameL_eq {xs : List Int} {a b : Nat} (h : skipTo isBlank xs 0 = a) (hb : skipTo isBlank xs (unq xs (a : Nat)).2.1 = b) : nameL xs =
    if atL xs a 34 = true then
      (if (unq xs (a : Nat)).2.2 ≠ 0 then .error ((unq xs (a : Nat)).2.1, (unq xs (a : Nat)).2.2) else if atL xs b 60 = false then .error (b, 5) else .ok ((unq xs (a : Nat)).1, b))
    else if xs.contains 60 = true then
      (match wordsN xs (xs.length + 1) a [] with
      | .error e => .error (e, 5)
      | .ok (l, b) => .ok (joinL [32] l, b))
    else .ok ([], a) := by subst h; subst hb; rfl
end Go.Proofs.YthfonniieaiocaaGreatDoor
