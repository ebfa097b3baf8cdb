/- Plain words: what a challenge prints as. -/
import Derived.Test.YtfhbpgickkibmaaDoorPg
namespace Go.Proofs.YtfhbpgickkibmaaDoor
open Go.RowKit

def nq (nm xs : List Int) : List Int := nm ++ [61] ++ quoteL xs
def DIG : List Int := [68, 105, 103, 101, 115, 116, 32]
def ALGP : List Int := [97, 108, 103, 111, 114, 105, 116, 104, 109, 61, 83, 72, 65, 45, 50, 53, 54]
def STALEP : List Int := [115, 116, 97, 108, 101, 61, 116, 114, 117, 101]
def BOTH : List Int := [97, 117, 116, 104, 44, 97, 117, 116, 104, 45, 105, 110, 116]
def prV : Option (List (List Int)) → Value
  | none => .tuple #[.string ⟨#[]⟩, .int .u8 2]
  | some l => .tuple #[.string (strOfNums (DIG ++ joinL [44, 32] l)), .int .u8 0]
def addT (L : Option (List (List Int))) (nm xs : List Int) : Option (List (List Int)) := if clean xs = true then L.map (· ++ [nq nm xs]) else none
def addP (L : Option (List (List Int))) (p : List Int) : Option (List (List Int)) := L.map (· ++ [p])
def partsCh (c : Ch) : List (List Int) := [nq REALM c.r, nq NONCE c.n] ++ (if c.o = [] then [] else [nq OPAQUE c.o]) ++ [ALGP] ++ [nq QOP (if c.i = true then BOTH else AUTH)] ++ (if c.s = true then [STALEP] else [])
def printCh (c : Ch) : Option (List (List Int)) := if clean c.r = true ∧ clean c.n = true ∧ clean c.o = true then some (partsCh c) else none
theorem addT_yes {l : List (List Int)} {nm xs : List Int} (h : clean xs = true) : addT (some l) nm xs = some (l ++ [nq nm xs]) := by unfold addT; rw [if_pos h]; rfl
theorem addT_no {L : Option (List (List Int))} {nm xs : List Int} (h : clean xs = false) : addT L nm xs = none := by unfold addT; rw [if_neg (by rw [h]; decide)]
theorem addT_none (nm xs : List Int) : addT none nm xs = none := by unfold addT; split <;> rfl
theorem addP_none (p : List Int) : addP none p = none := rfl
theorem clean_auth (b : Bool) : clean (if b = true then BOTH else AUTH) = true := by cases b <;> rfl
/-- The writer's way. -/
def writeCh (c : Ch) : Option (List (List Int)) :=
  let L1 := addT (addT (some []) REALM c.r) NONCE c.n
  let L2 := if c.o = [] then L1 else addT L1 OPAQUE c.o
  let L3 := addP L2 ALGP
  let L4 := addT L3 QOP (if c.i = true then BOTH else AUTH)
  if c.s = true then addP L4 STALEP else L4
theorem writeCh_eq (c : Ch) : writeCh c = printCh c := by
  unfold writeCh printCh partsCh
  cases hr : clean c.r with
  | false =>
    rw [addT_no hr, addT_none]
    simp only [addT_none, addP_none, ite_self, Bool.false_eq_true, false_and, if_false]
  | true =>
    rw [addT_yes hr]
    cases hn : clean c.n with
    | false =>
      rw [addT_no hn]
      simp only [addT_none, addP_none, ite_self, Bool.false_eq_true, false_and, and_false, if_false]
    | true =>
      rw [addT_yes hn]
      by_cases ho : c.o = []
      · have hc : clean c.o = true := by rw [ho]; rfl
        rw [hc]
        simp only [if_pos ho]
        unfold addP
        rw [Option.map_some, addT_yes (clean_auth c.i)]
        cases c.s <;> simp
      · cases hc : clean c.o with
        | false =>
          simp only [if_neg ho]
          rw [addT_no hc]
          simp only [addT_none, addP_none, ite_self, Bool.false_eq_true, and_false, if_false]
        | true =>
          simp only [if_neg ho]
          rw [addT_yes hc]
          unfold addP
          rw [Option.map_some, addT_yes (clean_auth c.i)]
          cases c.s <;> simp
theorem nq_len (nm xs : List Int) : (nq nm xs).length ≤ nm.length + 2 * xs.length + 3 := by
  unfold nq quoteL
  have := escL_len xs
  simp
  omega
theorem joinL_len (sep : List Int) (m : Nat) : ∀ l : List (List Int), (∀ p ∈ l, p.length ≤ m) → (joinL sep l).length ≤ l.length * (m + sep.length)
  | [], _ => by rw [joinL_nil]; simp
  | [x], h => by rw [joinL_one]; have := h x (by simp); simp; omega
  | x :: y :: r, h => by
    have ih := joinL_len sep m (y :: r) (fun p hp => h p (by simp [hp]))
    have := h x (by simp)
    rw [joinL_cons, List.length_append, List.length_append, List.length_cons, Nat.succ_mul]
    omega
end Go.Proofs.YtfhbpgickkibmaaDoor
