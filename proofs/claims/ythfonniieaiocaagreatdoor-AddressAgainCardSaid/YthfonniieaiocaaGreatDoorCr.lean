/- Contracts of the reference 01: Quote, opens, step, Unquote. Contracts of the reference 01: Unquote. Contracts: lexis.Split and the reference 01's Split, at a comma. Contract: the reference 01's Split, at a comma. Contracts: auth.readField. -/
import Derived.Test.YthfonniieaiocaaGreatDoorCd
import Derived.Test.YthfonniieaiocaaGreatDoorAc
set_option linter.unusedVariables false
set_option linter.unusedSimpArgs false
namespace Go.Proofs.YthfonniieaiocaaGreatDoor
open Go.RowKit

theorem OX.one (w : World) (x : Int) : OX w (.slice (some ⟨w.heap.size, 0, none⟩) 1 1) [x] (w.alloc (.cells #[.int .u8 x] 5)) :=
  ⟨⟨rfl, .inr ⟨_, 1, _, rfl, Nat.le_refl _, heap_alloc_new w _, Nat.le_refl _, by unfold maxLen; omega, by simp, by simp [U8]⟩⟩, (Below.refl _ _).alloc (Nat.le_refl _) _⟩
def opensR (xs : List Int) (z c : Int) : Int × Int := if z < 0 ∨ (xs.length : Int) < z then (0, 2) else if z = xs.length ∨ xs.getD z.toNat 0 ≠ c then (z, 5) else (0, 0)
/-- What the reference's step answers, case by case. -/
def StepIs (xs : List Int) (i : Nat) (r : Int × Int × Int) : Prop :=
  (xs.length ≤ i ∧ r = (0, (xs.length : Int), 6)) ∨
  (i < xs.length ∧ ((isCtl (xs.getD i 0) = true ∧ r = (0, (i : Int), 5)) ∨
    (isCtl (xs.getD i 0) = false ∧ ((xs.getD i 0 ≠ 92 ∧ r = (1, 0, 0)) ∨
      (xs.getD i 0 = 92 ∧ ((i + 1 = xs.length ∧ r = (0, (xs.length : Int), 6)) ∨
        (i + 1 < xs.length ∧ ((¬ (32 ≤ xs.getD (i + 1) 0 ∧ xs.getD (i + 1) 0 ≤ 126) ∧ r = (0, (i : Int), 5)) ∨ ((32 ≤ xs.getD (i + 1) 0 ∧ xs.getD (i + 1) 0 ≤ 126) ∧ r = (2, 0, 0))))))))))
def StepP (xs : List Int) (i : Nat) (w : World) (e : Ending) (w' : World) : Prop := (∃ r, StepIs xs i r ∧ e = .returned (.tuple #[.int .i64 r.1, .int .i64 r.2.1, .int .u8 r.2.2])) ∧ w = w'
end Go.Proofs.YthfonniieaiocaaGreatDoor
namespace Go.Proofs.YthfonniieaiocaaGreatDoor
open Go.RowKit

end Go.Proofs.YthfonniieaiocaaGreatDoor
namespace Go.Proofs.YthfonniieaiocaaGreatDoor
open Go.RowKit

section
variable {xs : List Int} {f i b : Nat} {acc : List (Nat × List Int)} {c : Int}
end
theorem unquote_b (s : ByteArray) (i : Nat) (U : List Int × Nat × Int) (w : World) (hU : unq (byteL s) i = U) (hi : i ≤ s.size) (hs : s.size ≤ 4000000) :
    Calls Tryz.prog 145 #[.string s, .int .i64 i] w fun e w' => e = .returned (.tuple #[.string (strOfNums U.1), .int .i64 (U.2.1 : Nat), .int .u8 U.2.2]) ∧ Below w.heap.size w w' := by
  subst hU; exact unquote_any s i w (by omega) hs
end Go.Proofs.YthfonniieaiocaaGreatDoor
namespace Go.Proofs.YthfonniieaiocaaGreatDoor
open Go.RowKit

end Go.Proofs.YthfonniieaiocaaGreatDoor
namespace Go.Proofs.YthfonniieaiocaaGreatDoor
open Go.RowKit

def fldV : Option (List Int × List Int) → Value
  | none => .tuple #[.string ⟨#[]⟩, .string ⟨#[]⟩, .bool false]
  | some (n, v) => .tuple #[.string (strOfNums n), .string (strOfNums v), .bool true]
theorem take_extract (s : ByteArray) (k : Nat) : byteL (s.extract 0 k) = (byteL s).take k := by rw [byteL_extract, List.drop_zero, Nat.sub_zero]
theorem drop_extract (s : ByteArray) (k : Nat) : byteL (s.extract k s.size) = (byteL s).drop k := by
  rw [byteL_extract, List.take_of_length_le (by rw [List.length_drop, byteL_len]; exact Nat.le_refl _)]
theorem clipN {k n : Nat} (h : k ≤ n) : clip (k : Int) n = k := by unfold clip; omega
theorem blanksN (s : ByteArray) (z : Int) (n : Nat) (w : World) (k : Nat) (hz : z = n) (hn : n ≤ s.size) (hk : skipTo isBlank (byteL s) n = k) (hs : s.size ≤ 4000000) :
    Calls Tryz.prog 144 #[.string s, .int .i64 z] w fun e w' => e = .returned (.int .i64 (k : Nat)) ∧ Below w.heap.size w w' := by
  subst hk; subst hz
  have h := blanks_any s n w (by omega) (by omega)
  rw [clipN hn] at h
  exact h
end Go.Proofs.YthfonniieaiocaaGreatDoor
