/- Contracts of the reference 03's short and Canon, of the reference 04's Is. Contracts of the reference 03's Canon, of the reference 04's Is. -/
import Derived.Test.YtfhbpgickkibmaaGreatDoorNb
import Derived.Test.YtfhbpgickkibmaaGreatDoorCe
namespace Go.Proofs.YtfhbpgickkibmaaGreatDoor
open Go.RowKit

def SHV : List Value := [.string ⟨#[98, 82, 101, 102, 101, 114, 114, 101, 100, 45, 66, 121]⟩, .string ⟨#[99, 67, 111, 110, 116, 101, 110, 116, 45, 84, 121, 112, 101]⟩, .string ⟨#[101, 67, 111, 110, 116, 101, 110, 116, 45, 69, 110, 99, 111, 100, 105, 110, 103]⟩, .string ⟨#[102, 70, 114, 111, 109]⟩, .string ⟨#[105, 67, 97, 108, 108, 45, 73, 68]⟩, .string ⟨#[107, 83, 117, 112, 112, 111, 114, 116, 101, 100]⟩, .string ⟨#[108, 67, 111, 110, 116, 101, 110, 116, 45, 76, 101, 110, 103, 116, 104]⟩, .string ⟨#[109, 67, 111, 110, 116, 97, 99, 116]⟩, .string ⟨#[111, 69, 118, 101, 110, 116]⟩, .string ⟨#[114, 82, 101, 102, 101, 114, 45, 84, 111]⟩, .string ⟨#[115, 83, 117, 98, 106, 101, 99, 116]⟩, .string ⟨#[116, 84, 111]⟩, .string ⟨#[117, 65, 108, 108, 111, 119, 45, 69, 118, 101, 110, 116, 115]⟩, .string ⟨#[118, 86, 105, 97]⟩, .string ⟨#[120, 83, 101, 115, 115, 105, 111, 110, 45, 69, 120, 112, 105, 114, 101, 115]⟩]
/-- The letters so far, the others in lower case. -/
def rcapK (xs : List Int) (k : Nat) : List Int := capL (xs.take k) ++ lowS (xs.drop k)
structure RPX (w : World) (B : Nat) (xs : List Int) (k : Nat) (wr : World) : Prop where
  r : BR wr B (rcapK xs k)
  b : Below w.heap.size w wr
def RPR (w : World) (B : Nat) (xs : List Int) (v : Value) (wr : World) : Prop := ∃ k : Nat, k ≤ xs.length ∧ v = .int .i64 k ∧ Hid (RPX w B xs k wr)
end Go.Proofs.YtfhbpgickkibmaaGreatDoor
namespace Go.Proofs.YtfhbpgickkibmaaGreatDoor
open Go.RowKit

/-- Two names are equal. -/
def isL (a b : List Int) : Bool := match canonL a, canonL b with
  | some x, some y => x == y
  | _, _ => false
theorem canonL_by {a x : List Int} (ha : By a) (h : canonL a = some x) : By x := by
  unfold canonL at h
  split at h
  · cases h; exact canonT_by ha
  · cases h
end Go.Proofs.YtfhbpgickkibmaaGreatDoor
