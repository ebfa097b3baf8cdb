/- Plain: numbers, names of headers, parameters (without a bracket). -/
import Derived.Test.YtcnkjgjimcddiaaGreatDoorPe
import Derived.Test.YtcnkjgjimcddiaaGreatDoorNb
namespace Go.Proofs.YtcnkjgjimcddiaaGreatDoor
open Go.RowKit

def isDig (c : Int) : Bool := decide (48 ≤ c) && decide (c ≤ 57)
def valL (l : List Int) : Int := l.foldl (fun n c => 10 * n + (c - 48)) 0
def decnL (xs : List Int) : Int × Int := if xs.length < 1 ∨ 10 < xs.length ∨ xs.all isDig = false then (0, 5) else if 2147483647 < valL xs then (0, 3) else (valL xs, 0)
theorem valL_snoc (l : List Int) (c : Int) : valL (l ++ [c]) = 10 * valL l + (c - 48) := by simp [valL]
theorem valL_fold : ∀ (l : List Int) (a : Int), 0 ≤ a → l.all isDig = true → 0 ≤ l.foldl (fun n c => 10 * n + (c - 48)) a ∧ l.foldl (fun n c => 10 * n + (c - 48)) a < (a + 1) * 10 ^ l.length
  | [], a, h, _ => by simp; omega
  | c :: l, a, h, hd => by
    rw [List.all_cons, Bool.and_eq_true] at hd
    have h3 := hd.1
    unfold isDig at h3
    simp at h3
    obtain ⟨h1, h2⟩ := valL_fold l (10 * a + (c - 48)) (by omega) hd.2
    rw [List.foldl_cons, List.length_cons, Int.pow_succ]
    refine ⟨h1, Int.lt_of_lt_of_le h2 ?_⟩
    have h4 : (10 * a + (c - 48) + 1) * 10 ^ l.length ≤ (10 * (a + 1)) * 10 ^ l.length := Int.mul_le_mul_of_nonneg_right (by omega) (Int.pow_nonneg (by decide))
    rw [show (a + 1) * (10 ^ l.length * 10) = (10 * (a + 1)) * 10 ^ l.length by rw [Int.mul_comm 10 (a + 1), Int.mul_assoc, Int.mul_comm (10 ^ l.length) 10]]
    exact h4
theorem valL_range (l : List Int) (h : l.all isDig = true) : 0 ≤ valL l ∧ valL l < 10 ^ l.length := by
  have := valL_fold l 0 (by decide) h
  rw [Int.zero_add, Int.one_mul] at this
  exact this
theorem all_take_succ {p : Int → Bool} {l : List Int} {k : Nat} (h : k < l.length) : (l.take (k + 1)).all p = ((l.take k).all p && p (l.getD k 0)) := by rw [take_snocI l h, List.all_append]; simp
theorem all_no {p : Int → Bool} {l : List Int} {k : Nat} (h : k < l.length) (hp : p (l.getD k 0) = false) : l.all p = false := by
  rw [← List.take_append_drop (k + 1) l, List.all_append, all_take_succ h, hp]; simp
/-- Equal names, as a header's name is compared with a canonical one. -/
def eqN (a b : Option (List Int)) : Bool := match a, b with
  | some x, some y => x == y
  | _, _ => false
/-- A parameter: name, value, whether it has one. -/
structure Pm where
  n : List Int
  v : List Int
  h : Bool
/-- The parameter at an offset: the error and its place, or the parameter and the place behind it. -/
def listedL (xs : List Int) (a : Nat) : Except (Nat × Int) (Pm × Nat) :=
  let e1 := skipTo isTok xs a
  if e1 = a then .error (e1, 5) else
  let nm := lowS (subL xs a e1)
  let a1 := skipTo isBlank xs e1
  if ¬ (a1 < xs.length ∧ xs.getD a1 0 = 61) then .ok (⟨nm, [], false⟩, a1) else
  let a2 := skipTo isBlank xs (a1 + 1)
  if a2 < xs.length ∧ xs.getD a2 0 = 34 then (if (unq xs (a2 : Nat)).2.2 ≠ 0 then .error ((unq xs (a2 : Nat)).2.1, (unq xs (a2 : Nat)).2.2) else .ok (⟨nm, (unq xs (a2 : Nat)).1, true⟩, (unq xs (a2 : Nat)).2.1)) else
  let e3 := skipTo isTok xs a2
  if e3 = a2 then .error (a2, 5) else .ok (⟨nm, subL xs a2 e3, true⟩, e3)
def holdsL (l : List Pm) (n : List Int) : Bool := l.any fun p => p.n == n
def roomL (l : List Pm) (n : List Int) : Int := if holdsL l n = true then 7 else if 16 ≤ l.length then 4 else 0
/-- The parameters from an offset on; f bounds the rounds. -/
def paramsN (xs : List Int) : Nat → Nat → List Pm → Except (Nat × Int) (List Pm)
  | 0, _, l => .ok l
  | f + 1, a, l =>
    let a0 := skipTo isBlank xs a
    if xs.length ≤ a0 then .ok l else
    if xs.getD a0 0 ≠ 59 then .error (a0, 5) else
    let a1 := skipTo isBlank xs (a0 + 1)
    match listedL xs a1 with
    | .error e => .error e
    | .ok (p, a2) => if roomL l p.n ≠ 0 then .error (a1, roomL l p.n) else paramsN xs f a2 (l ++ [p])
def paramsL (xs : List Int) : Except (Nat × Int) (List Pm) := paramsN xs (xs.length + 1) 0 []
/-- An item: its text and its parameters. -/
def itemL (xs0 : List Int) : Except Int (List Int × List Pm) :=
  let xs := trimB xs0
  let e1 := skipTo isTok xs 0
  if e1 = 0 then .error 5 else
  let e2 := skipTo isTok xs (e1 + 1)
  let sl := decide (e1 < xs.length) && (xs.getD e1 0 == 47)
  if sl = true ∧ e2 = e1 + 1 then .error 5 else
  let e := if sl = true then e2 else e1
  match paramsL (xs.drop e) with
  | .error k => .error k.2
  | .ok l => .ok (xs.take e, l)
def getPm (l : List Pm) (n : List Int) : Option (List Int) := (l.find? fun p => lowS p.n == lowS n).map (·.v)
end Go.Proofs.YtcnkjgjimcddiaaGreatDoor
