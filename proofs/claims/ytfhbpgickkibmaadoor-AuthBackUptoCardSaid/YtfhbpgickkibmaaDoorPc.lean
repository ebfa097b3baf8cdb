/- Plain words for quoted texts, fields and words. -/
import Derived.Test.YtfhbpgickkibmaaDoorPb
namespace Go.Proofs.YtfhbpgickkibmaaDoor
open Go.RowKit

def lowC (c : Int) : Int := if 65 ≤ c ∧ c ≤ 90 then c + 32 else c
def lowS (l : List Int) : List Int := l.map lowC
theorem lowS_len (l : List Int) : (lowS l).length = l.length := by simp [lowS]
theorem lowC_by {c : Int} (h : 0 ≤ c ∧ c < 256) : 0 ≤ lowC c ∧ lowC c < 256 := by unfold lowC; split <;> omega
theorem lowS_by {l : List Int} (h : By l) : By (lowS l) := fun x hx => by
  obtain ⟨c, hc, rfl⟩ := List.mem_map.1 hx
  exact lowC_by (h c hc)
def clean (l : List Int) : Bool := l.all fun c => !isCtl c
def escC (c : Int) : List Int := if c = 34 ∨ c = 92 then [92, c] else [c]
def escL (l : List Int) : List Int := l.flatMap escC
def quoteL (l : List Int) : List Int := 34 :: (escL l ++ [34])
theorem escL_snoc (l : List Int) (c : Int) : escL (l ++ [c]) = escL l ++ escC c := by simp [escL]
theorem escL_len (l : List Int) : (escL l).length ≤ 2 * l.length := by
  induction l with
  | nil => simp [escL]
  | cons c l ih =>
    rw [show escL (c :: l) = escC c ++ escL l from rfl, List.length_append, List.length_cons]
    have : (escC c).length ≤ 2 := by unfold escC; split <;> simp
    omega
theorem escL_by {l : List Int} (h : By l) : By (escL l) := fun x hx => by
  obtain ⟨c, hc, hx⟩ := List.mem_flatMap.1 hx
  have := h c hc
  unfold escC at hx
  split at hx
  · simp at hx
    rcases hx with rfl | rfl <;> omega
  · simp at hx
    subst hx
    exact this
theorem quoteL_by {l : List Int} (h : By l) : By (quoteL l) := fun x hx => by
  unfold quoteL at hx
  rcases List.mem_cons.1 hx with rfl | hx
  · omega
  · rcases List.mem_append.1 hx with hx | hx
    · exact escL_by h x hx
    · rw [List.mem_singleton] at hx; omega
def isToken (l : List Int) : Bool := !l.isEmpty && (skipTo isTok l 0 == l.length)
/-- A field: its name and its value. -/
def fldL (xs : List Int) : Option (List Int × List Int) :=
  if skipTo isTok xs 0 = 0 ∨ skipTo isBlank xs (skipTo isTok xs 0) = xs.length ∨ xs.getD (skipTo isBlank xs (skipTo isTok xs 0)) 0 ≠ 61 then none
  else
    if skipTo isBlank xs (skipTo isBlank xs (skipTo isTok xs 0) + 1) < xs.length ∧ xs.getD (skipTo isBlank xs (skipTo isBlank xs (skipTo isTok xs 0) + 1)) 0 = 34 then
      if (unq xs (skipTo isBlank xs (skipTo isBlank xs (skipTo isTok xs 0) + 1))).2.2 ≠ 0 ∨ (unq xs (skipTo isBlank xs (skipTo isBlank xs (skipTo isTok xs 0) + 1))).2.1 ≠ xs.length then none
      else some (lowS (xs.take (skipTo isTok xs 0)), (unq xs (skipTo isBlank xs (skipTo isBlank xs (skipTo isTok xs 0) + 1))).1)
    else if isToken (xs.drop (skipTo isBlank xs (skipTo isBlank xs (skipTo isTok xs 0) + 1))) = true then some (lowS (xs.take (skipTo isTok xs 0)), xs.drop (skipTo isBlank xs (skipTo isBlank xs (skipTo isTok xs 0) + 1)))
    else none
theorem tok_not_quote : isTok 34 = false := by decide
theorem token_quote {l : List Int} (h : l.getD 0 0 = 34) : isToken l = false := by
  cases l with
  | nil => rfl
  | cons c r =>
    have hc : c = 34 := h
    subst hc
    unfold isToken
    rw [skip_no (by simp) (show isTok (List.getD (34 :: r) 0 0) = false from tok_not_quote)]
    rfl
def DIGEST : List Int := [100, 105, 103, 101, 115, 116]
/-- The fields of a challenge or of credentials, in order; or the error. -/
def addF (acc : List (List Int × List Int)) (p : List Int) : Except Int (List (List Int × List Int)) :=
  match fldL p with
  | none => .error 5
  | some f => if acc.any (fun q => q.1 == f.1) then .error 7 else .ok (acc ++ [f])
def addAll : List (List Int × List Int) → List (List Int) → Except Int (List (List Int × List Int))
  | acc, [] => .ok acc
  | acc, p :: ps => match addF acc p with
    | .error e => .error e
    | .ok acc' => addAll acc' ps
def fieldsL (xs : List Int) : Except Int (List (List Int × List Int)) :=
  if (trimB xs).length < 7 ∨ lowS ((trimB xs).take 6) ≠ DIGEST ∨ isBlank ((trimB xs).getD 6 0) = false then .error 15
  else if (splitL ((trimB xs).drop 6) 44).2.2 ≠ 0 then .error (splitL ((trimB xs).drop 6) 44).2.2
  else addAll [] ((splitL ((trimB xs).drop 6) 44).1.map (·.2))
def getF (l : List (List Int × List Int)) (name : List Int) : Option (List Int) := (l.find? (fun q => q.1 == name)).map (·.2)
end Go.Proofs.YtfhbpgickkibmaaDoor
