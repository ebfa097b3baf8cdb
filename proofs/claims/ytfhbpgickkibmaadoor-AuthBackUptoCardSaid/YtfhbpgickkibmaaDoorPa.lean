/- Plain words for texts: lists of bytes as integers; classes of bytes; what stands from a place on. -/
import Derived.WalkKit
import Derived.Laws.BytesArg
import Derived.Lib.Hide
namespace Go.Proofs.YtfhbpgickkibmaaDoor
open Go.RowKit

def By (bs : List Int) : Prop := ∀ x ∈ bs, 0 ≤ x ∧ x < 256
def byteL (s : ByteArray) : List Int := s.data.toList.map fun c => (c.toNat : Int)
theorem byteL_len (s : ByteArray) : (byteL s).length = s.size := by unfold byteL; rw [List.length_map]; rfl
theorem byteL_by (s : ByteArray) : By (byteL s) := fun x hx => by
  obtain ⟨c, _, rfl⟩ := List.mem_map.1 hx
  have := c.toNat_lt
  omega
theorem getD_some {l : List Int} {i : Nat} (h : i < l.length) : l[i]? = some (l.getD i 0) := by
  rw [List.getD_eq_getElem?_getD, List.getElem?_eq_getElem h]; rfl
theorem getD_mem {l : List Int} {i : Nat} (h : i < l.length) : l.getD i 0 ∈ l := List.mem_of_getElem? (getD_some h)
theorem byteL_at (s : ByteArray) {i : Nat} (hi : i < s.size) : ((s[i]).toNat : Int) = (byteL s).getD i 0 := by
  have h : i < s.data.toList.length := hi
  rw [List.getD_eq_getElem?_getD, byteL, List.getElem?_map, List.getElem?_eq_getElem h]
  rfl
theorem byteL_str {l : List Int} (h : By l) : byteL (strOfNums l) = l := by
  unfold byteL
  rw [strOfNums_data, List.map_map]
  conv => rhs; rw [← List.map_id l]
  refine List.map_congr_left fun x hx => ?_
  have := h x hx
  simp only [Function.comp, id, UInt8.toNat_ofNat']
  omega
theorem str_byteL (s : ByteArray) : strOfNums (byteL s) = s := by
  apply ByteArray.ext
  apply Array.toList_inj.1
  rw [strOfNums_data, byteL, List.map_map]
  conv => rhs; rw [← List.map_id s.data.toList]
  refine List.map_congr_left fun c _ => ?_
  simp [Function.comp]
theorem str_app (a b : List Int) : strOfNums a ++ strOfNums b = strOfNums (a ++ b) := by
  apply ByteArray.ext
  rw [ByteArray.data_append]
  simp [strOfNums]
theorem byteL_extract (s : ByteArray) (a b : Nat) : byteL (s.extract a b) = ((byteL s).drop a).take (b - a) := by
  unfold byteL
  rw [← List.map_drop, ← List.map_take]
  congr 1
  rw [ByteArray.data_extract, Array.toList_extract]
theorem take_snocI (bs : List Int) {k : Nat} (h : k < bs.length) : bs.take (k + 1) = bs.take k ++ [bs.getD k 0] := by
  rw [List.take_succ_eq_append_getElem h, List.getD_eq_getElem?_getD, List.getElem?_eq_getElem h]; rfl
theorem drop_consI (bs : List Int) {k : Nat} (h : k < bs.length) : bs.drop k = bs.getD k 0 :: bs.drop (k + 1) := by
  rw [List.drop_eq_getElem_cons h, List.getD_eq_getElem?_getD, List.getElem?_eq_getElem h]; rfl

def isBlank (c : Int) : Bool := c == 32 || c == 9
def isCtl (c : Int) : Bool := (decide (c < 32) && !(c == 9)) || c == 127
def isTok (c : Int) : Bool := (decide (97 ≤ c) && decide (c ≤ 122)) || ((decide (65 ≤ c) && decide (c ≤ 90)) || ((decide (48 ≤ c) && decide (c ≤ 57)) || (c == 45 || (c == 46 || (c == 33 || (c == 37 || (c == 42 || (c == 95 || (c == 43 || (c == 39 || (c == 126 || c == 96)))))))))))
/-- The first place from i on whose byte is not in the class. -/
def skipTo (p : Int → Bool) (xs : List Int) (i : Nat) : Nat := i + ((xs.drop i).takeWhile p).length
theorem skip_yes {p : Int → Bool} {xs : List Int} {i : Nat} (h : i < xs.length) (hp : p (xs.getD i 0) = true) : skipTo p xs i = skipTo p xs (i + 1) := by
  unfold skipTo
  rw [drop_consI xs h, List.takeWhile_cons, if_pos hp, List.length_cons]
  omega
theorem skip_no {p : Int → Bool} {xs : List Int} {i : Nat} (h : i < xs.length) (hp : p (xs.getD i 0) = false) : skipTo p xs i = i := by
  unfold skipTo
  rw [drop_consI xs h, List.takeWhile_cons, if_neg (by rw [hp]; decide)]
  rfl
theorem skip_end {p : Int → Bool} {xs : List Int} {i : Nat} (h : xs.length ≤ i) : skipTo p xs i = i := by
  unfold skipTo
  rw [List.drop_of_length_le h]
  rfl
theorem skip_le {p : Int → Bool} {xs : List Int} {i : Nat} (h : i ≤ xs.length) : skipTo p xs i ≤ xs.length := by
  unfold skipTo
  have h1 := (List.takeWhile_sublist p (l := xs.drop i)).length_le
  rw [List.length_drop] at h1
  omega
theorem skip_ge (p : Int → Bool) (xs : List Int) (i : Nat) : i ≤ skipTo p xs i := Nat.le_add_right _ _
/-- An offset brought into the text. -/
def clip (z : Int) (n : Nat) : Nat := min z.toNat n
/-- The content of a quoted text from a place behind its first quote on: the content, the place, the error. -/
def uqL : List Int → Nat → List Int → List Int × Nat × Int
  | [], i, _ => ([], i, 6)
  | c :: r, i, acc =>
    if c = 34 then (acc, i + 1, 0)
    else if c = 92 then
      match r with
      | [] => ([], i + 1, 6)
      | d :: r2 => if 32 ≤ d ∧ d ≤ 126 then uqL r2 (i + 2) (acc ++ [d]) else ([], i, 5)
    else if isCtl c = true then ([], i, 5)
    else uqL r (i + 1) (acc ++ [c])
def unq (xs : List Int) (at_ : Int) : List Int × Nat × Int :=
  if at_ < 0 ∨ (xs.length : Int) < at_ then ([], 0, 2)
  else if at_ = xs.length ∨ xs.getD at_.toNat 0 ≠ 34 then ([], at_.toNat, 5)
  else uqL (xs.drop (at_.toNat + 1)) (at_.toNat + 1) []
end Go.Proofs.YtfhbpgickkibmaaDoor
