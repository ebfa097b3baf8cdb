/- Plain words for trimmed texts and for a text divided at separators. -/
import Derived.Test.YtfhbpgickkibmaaDoorPa
namespace Go.Proofs.YtfhbpgickkibmaaDoor
open Go.RowKit

def ltrim (l : List Int) : List Int := l.dropWhile isBlank
def rtrim (l : List Int) : List Int := (l.reverse.dropWhile isBlank).reverse
def trimB (l : List Int) : List Int := rtrim (ltrim l)
def subL (xs : List Int) (a b : Nat) : List Int := (xs.drop a).take (b - a)
theorem subL_len {xs : List Int} {a b : Nat} (hb : b ≤ xs.length) : (subL xs a b).length = b - a := by
  unfold subL; rw [List.length_take, List.length_drop]; omega
theorem dropWhile_drop (p : Int → Bool) : ∀ l : List Int, l.dropWhile p = l.drop (l.takeWhile p).length
  | [] => rfl
  | c :: l => by
    rw [List.dropWhile_cons, List.takeWhile_cons]
    by_cases h : p c = true
    · rw [if_pos h, if_pos h, List.length_cons, List.drop_succ_cons, dropWhile_drop p l]
    · rw [if_neg h, if_neg h]; rfl
theorem takeWhile_takeL (p : Int → Bool) : ∀ (l : List Int) (n : Nat), ((l.take n).takeWhile p).length = min (l.takeWhile p).length n
  | [], n => by simp
  | c :: l, 0 => by simp
  | c :: l, n + 1 => by
    rw [List.take_succ_cons, List.takeWhile_cons, List.takeWhile_cons]
    by_cases h : p c = true
    · rw [if_pos h, if_pos h, List.length_cons, List.length_cons, takeWhile_takeL p l n]; omega
    · rw [if_neg h, if_neg h]; simp
def pieceOf (xs : List Int) (a b : Nat) : Nat × List Int := (a + ((subL xs a b).takeWhile isBlank).length, trimB (subL xs a b))
theorem piece_at {xs : List Int} {a b : Nat} (hab : a ≤ b) : min (skipTo isBlank xs a) b = (pieceOf xs a b).1 := by
  unfold pieceOf skipTo subL
  dsimp only
  rw [takeWhile_takeL]
  omega
theorem piece_text {xs : List Int} {a b : Nat} (hab : a ≤ b) (hb : b ≤ xs.length) : rtrim (subL xs (min (skipTo isBlank xs a) b) b) = (pieceOf xs a b).2 := by
  rw [piece_at hab]
  unfold pieceOf trimB
  dsimp only
  congr 1
  unfold ltrim
  rw [dropWhile_drop]
  generalize ((subL xs a b).takeWhile isBlank).length = k
  unfold subL
  rw [List.drop_take, List.drop_drop]
  congr 1
  omega
theorem piece_le {xs : List Int} {a b : Nat} (hab : a ≤ b) : a ≤ (pieceOf xs a b).1 ∧ (pieceOf xs a b).1 ≤ b := by
  rw [← piece_at hab]
  have := skip_ge isBlank xs a
  omega
/-- A text divided at separators: the pieces, the place, the error. -/
def splN (xs : List Int) (sep : Int) : Nat → Nat → Nat → List (Nat × List Int) → List (Nat × List Int) × Nat × Int
  | 0, _, _, _ => ([], 0, 0)
  | f + 1, i, b, acc =>
    if xs.length ≤ i then (acc ++ [pieceOf xs b xs.length], 0, 0)
    else if xs.getD i 0 = 34 then
      if (unq xs i).2.2 ≠ 0 then ([], (unq xs i).2.1, (unq xs i).2.2) else splN xs sep f (unq xs i).2.1 b acc
    else if xs.getD i 0 = 60 then
      if xs.length ≤ skipTo (fun c => c != 62) xs i then ([], xs.length, 6) else splN xs sep f (skipTo (fun c => c != 62) xs i + 1) b acc
    else if xs.getD i 0 = 62 then ([], i, 5)
    else if xs.getD i 0 = sep then splN xs sep f (i + 1) (i + 1) (acc ++ [pieceOf xs b i])
    else splN xs sep f (i + 1) b acc
def sepBad (sep : Int) : Bool := isBlank sep || (sep == 34 || (sep == 60 || sep == 62))
def splitL (xs : List Int) (sep : Int) : List (Nat × List Int) × Nat × Int :=
  if sepBad sep = true then ([], 0, 2) else splN xs sep (xs.length + 1) 0 0 []
/-- Behind a quoted text is further on, within the text. -/
theorem uqL_pos : ∀ (l : List Int) (i : Nat) (acc : List Int), i ≤ (uqL l i acc).2.1 ∧ (uqL l i acc).2.1 ≤ i + l.length ∧ ((uqL l i acc).2.2 = 0 → i < (uqL l i acc).2.1)
  | [], i, acc => by unfold uqL; exact ⟨Nat.le_refl _, by simp, fun h => by cases h⟩
  | c :: l, i, acc => by
    unfold uqL
    split
    · exact ⟨by simp, by simp, fun _ => by simp⟩
    · split
      · match l with
        | [] => exact ⟨by simp, by simp, fun h => by cases h⟩
        | d :: r2 =>
          dsimp only
          split
          · have h := uqL_pos r2 (i + 2) (acc ++ [d])
            simp only [List.length_cons]
            exact ⟨by omega, by omega, fun h0 => by have := h.2.2 h0; omega⟩
          · exact ⟨Nat.le_refl _, by simp, fun h => by cases h⟩
      · split
        · exact ⟨Nat.le_refl _, by simp, fun h => by cases h⟩
        · have h := uqL_pos l (i + 1) (acc ++ [c])
          simp only [List.length_cons]
          exact ⟨by omega, by omega, fun h0 => by have := h.2.2 h0; omega⟩
theorem unq_pos {xs : List Int} {i : Nat} (hi : i ≤ xs.length) : (unq xs i).2.1 ≤ xs.length ∧ ((unq xs i).2.2 = 0 → i < (unq xs i).2.1) := by
  unfold unq
  rw [if_neg (by omega)]
  split
  · exact ⟨by simp; omega, fun h => by cases h⟩
  · rename_i hq
    have hlt : i < xs.length := by
      rcases Nat.lt_or_ge i xs.length with h | h
      · exact h
      · exact absurd (Or.inl (by omega)) hq
    rw [Int.toNat_natCast]
    have h := uqL_pos (xs.drop (i + 1)) (i + 1) []
    rw [List.length_drop] at h
    exact ⟨by omega, fun h0 => by have := h.2.2 h0; omega⟩
end Go.Proofs.YtfhbpgickkibmaaDoor
