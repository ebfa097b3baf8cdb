/- Plain words for texts: lists of bytes as integers; classes of bytes; what stands from a place on. Plain words for trimmed texts and for a text divided at separators. Plain words for quoted texts, fields and words. Plain words: a text divided at a byte, trimmed at both ends, joined; the shelf's words in mine. Plain words: what the pieces, the quoted texts and the fields hold; how long they are. -/
import Derived.WalkKit
import Derived.Laws.BytesArg
import Derived.Lib.Hide
import Derived.Lib.SplitLaws
import Derived.Lib.SlTrimSet
import Derived.Lib.SlicesS
import Derived.Lib.Join
namespace Go.Proofs.YtcnkjgjimcddiaaGreatDoor
open Go.RowKit

def By (bs : List Int) : Prop := ∀ x ∈ bs, 0 ≤ x ∧ x < 256
def byteL (s : ByteArray) : List Int := s.data.toList.map fun c => (c.toNat : Int)
theorem byteL_len (s : ByteArray) : (byteL s).length = s.size := by unfold byteL; rw [List.length_map]; rfl
theorem byteL_by (s : ByteArray) : By (byteL s) := fun x hx => by
  obtain ⟨c, _, rfl⟩ := List.mem_map.1 hx
  have := c.toNat_lt
  omega
theorem getD_some {l : List Int} {i : Nat} (h : i < l.length) : l[i]? = some (l.getD i 0) := by
  rw [List.getD_eq_getElem?_getD, List.getElem?_eq_getElem h]; rfl
theorem getD_mem {l : List Int} {i : Nat} (h : i < l.length) : l.getD i 0 ∈ l := List.mem_of_getElem? (getD_some h)
theorem byteL_at (s : ByteArray) {i : Nat} (hi : i < s.size) : ((s[i]).toNat : Int) = (byteL s).getD i 0 := by
  have h : i < s.data.toList.length := hi
  rw [List.getD_eq_getElem?_getD, byteL, List.getElem?_map, List.getElem?_eq_getElem h]
  rfl
theorem byteL_str {l : List Int} (h : By l) : byteL (strOfNums l) = l := by
  unfold byteL
  rw [strOfNums_data, List.map_map]
  conv => rhs; rw [← List.map_id l]
  refine List.map_congr_left fun x hx => ?_
  have := h x hx
  simp only [Function.comp, id, UInt8.toNat_ofNat']
  omega
theorem str_byteL (s : ByteArray) : strOfNums (byteL s) = s := by
  apply ByteArray.ext
  apply Array.toList_inj.1
  rw [strOfNums_data, byteL, List.map_map]
  conv => rhs; rw [← List.map_id s.data.toList]
  refine List.map_congr_left fun c _ => ?_
  simp [Function.comp]
theorem str_app (a b : List Int) : strOfNums a ++ strOfNums b = strOfNums (a ++ b) := by
  apply ByteArray.ext
  rw [ByteArray.data_append]
  simp [strOfNums]
theorem byteL_extract (s : ByteArray) (a b : Nat) : byteL (s.extract a b) = ((byteL s).drop a).take (b - a) := by
  unfold byteL
  rw [← List.map_drop, ← List.map_take]
  congr 1
  rw [ByteArray.data_extract, Array.toList_extract]
theorem take_snocI (bs : List Int) {k : Nat} (h : k < bs.length) : bs.take (k + 1) = bs.take k ++ [bs.getD k 0] := by
  rw [List.take_succ_eq_append_getElem h, List.getD_eq_getElem?_getD, List.getElem?_eq_getElem h]; rfl
theorem drop_consI (bs : List Int) {k : Nat} (h : k < bs.length) : bs.drop k = bs.getD k 0 :: bs.drop (k + 1) := by
  rw [List.drop_eq_getElem_cons h, List.getD_eq_getElem?_getD, List.getElem?_eq_getElem h]; rfl

def isBlank (c : Int) : Bool := c == 32 || c == 9
def isCtl (c : Int) : Bool := (decide (c < 32) && !(c == 9)) || c == 127
def isTok (c : Int) : Bool := (decide (97 ≤ c) && decide (c ≤ 122)) || ((decide (65 ≤ c) && decide (c ≤ 90)) || ((decide (48 ≤ c) && decide (c ≤ 57)) || (c == 45 || (c == 46 || (c == 33 || (c == 37 || (c == 42 || (c == 95 || (c == 43 || (c == 39 || (c == 126 || c == 96)))))))))))
/-- The first place from i on whose byte is not in the class. -/
def skipTo (p : Int → Bool) (xs : List Int) (i : Nat) : Nat := i + ((xs.drop i).takeWhile p).length
theorem skip_yes {p : Int → Bool} {xs : List Int} {i : Nat} (h : i < xs.length) (hp : p (xs.getD i 0) = true) : skipTo p xs i = skipTo p xs (i + 1) := by
  unfold skipTo
  rw [drop_consI xs h, List.takeWhile_cons, if_pos hp, List.length_cons]
  omega
theorem skip_no {p : Int → Bool} {xs : List Int} {i : Nat} (h : i < xs.length) (hp : p (xs.getD i 0) = false) : skipTo p xs i = i := by
  unfold skipTo
  rw [drop_consI xs h, List.takeWhile_cons, if_neg (by rw [hp]; decide)]
  rfl
theorem skip_end {p : Int → Bool} {xs : List Int} {i : Nat} (h : xs.length ≤ i) : skipTo p xs i = i := by
  unfold skipTo
  rw [List.drop_of_length_le h]
  rfl
theorem skip_le {p : Int → Bool} {xs : List Int} {i : Nat} (h : i ≤ xs.length) : skipTo p xs i ≤ xs.length := by
  unfold skipTo
  have h1 := (List.takeWhile_sublist p (l := xs.drop i)).length_le
  rw [List.length_drop] at h1
  omega
theorem skip_ge (p : Int → Bool) (xs : List Int) (i : Nat) : i ≤ skipTo p xs i := Nat.le_add_right _ _
/-- An offset brought into the text. -/
def clip (z : Int) (n : Nat) : Nat := min z.toNat n
/-- The content of a quoted text from a place behind its first quote on: the content, the place, the error. -/
def uqL : List Int → Nat → List Int → List Int × Nat × Int
  | [], i, _ => ([], i, 6)
  | c :: r, i, acc =>
    if c = 34 then (acc, i + 1, 0)
    else if c = 92 then
      match r with
      | [] => ([], i + 1, 6)
      | d :: r2 => if 32 ≤ d ∧ d ≤ 126 then uqL r2 (i + 2) (acc ++ [d]) else ([], i, 5)
    else if isCtl c = true then ([], i, 5)
    else uqL r (i + 1) (acc ++ [c])
def unq (xs : List Int) (at_ : Int) : List Int × Nat × Int :=
  if at_ < 0 ∨ (xs.length : Int) < at_ then ([], 0, 2)
  else if at_ = xs.length ∨ xs.getD at_.toNat 0 ≠ 34 then ([], at_.toNat, 5)
  else uqL (xs.drop (at_.toNat + 1)) (at_.toNat + 1) []
end Go.Proofs.YtcnkjgjimcddiaaGreatDoor
namespace Go.Proofs.YtcnkjgjimcddiaaGreatDoor
open Go.RowKit

def ltrim (l : List Int) : List Int := l.dropWhile isBlank
def rtrim (l : List Int) : List Int := (l.reverse.dropWhile isBlank).reverse
def trimB (l : List Int) : List Int := rtrim (ltrim l)
def subL (xs : List Int) (a b : Nat) : List Int := (xs.drop a).take (b - a)
theorem subL_len {xs : List Int} {a b : Nat} (hb : b ≤ xs.length) : (subL xs a b).length = b - a := by
  unfold subL; rw [List.length_take, List.length_drop]; omega
theorem dropWhile_drop (p : Int → Bool) : ∀ l : List Int, l.dropWhile p = l.drop (l.takeWhile p).length
  | [] => rfl
  | c :: l => by
    rw [List.dropWhile_cons, List.takeWhile_cons]
    by_cases h : p c = true
    · rw [if_pos h, if_pos h, List.length_cons, List.drop_succ_cons, dropWhile_drop p l]
    · rw [if_neg h, if_neg h]; rfl
theorem takeWhile_takeL (p : Int → Bool) : ∀ (l : List Int) (n : Nat), ((l.take n).takeWhile p).length = min (l.takeWhile p).length n
  | [], n => by simp
  | c :: l, 0 => by simp
  | c :: l, n + 1 => by
    rw [List.take_succ_cons, List.takeWhile_cons, List.takeWhile_cons]
    by_cases h : p c = true
    · rw [if_pos h, if_pos h, List.length_cons, List.length_cons, takeWhile_takeL p l n]; omega
    · rw [if_neg h, if_neg h]; simp
def pieceOf (xs : List Int) (a b : Nat) : Nat × List Int := (a + ((subL xs a b).takeWhile isBlank).length, trimB (subL xs a b))
theorem piece_at {xs : List Int} {a b : Nat} (hab : a ≤ b) : min (skipTo isBlank xs a) b = (pieceOf xs a b).1 := by
  unfold pieceOf skipTo subL
  dsimp only
  rw [takeWhile_takeL]
  omega
theorem piece_text {xs : List Int} {a b : Nat} (hab : a ≤ b) (hb : b ≤ xs.length) : rtrim (subL xs (min (skipTo isBlank xs a) b) b) = (pieceOf xs a b).2 := by
  rw [piece_at hab]
  unfold pieceOf trimB
  dsimp only
  congr 1
  unfold ltrim
  rw [dropWhile_drop]
  generalize ((subL xs a b).takeWhile isBlank).length = k
  unfold subL
  rw [List.drop_take, List.drop_drop]
  congr 1
  omega
/-- A text divided at separators: the pieces, the place, the error. -/
def splN (xs : List Int) (sep : Int) : Nat → Nat → Nat → List (Nat × List Int) → List (Nat × List Int) × Nat × Int
  | 0, _, _, _ => ([], 0, 0)
  | f + 1, i, b, acc =>
    if xs.length ≤ i then (acc ++ [pieceOf xs b xs.length], 0, 0)
    else if xs.getD i 0 = 34 then
      if (unq xs i).2.2 ≠ 0 then ([], (unq xs i).2.1, (unq xs i).2.2) else splN xs sep f (unq xs i).2.1 b acc
    else if xs.getD i 0 = 60 then
      if xs.length ≤ skipTo (fun c => c != 62) xs i then ([], xs.length, 6) else splN xs sep f (skipTo (fun c => c != 62) xs i + 1) b acc
    else if xs.getD i 0 = 62 then ([], i, 5)
    else if xs.getD i 0 = sep then splN xs sep f (i + 1) (i + 1) (acc ++ [pieceOf xs b i])
    else splN xs sep f (i + 1) b acc
def sepBad (sep : Int) : Bool := isBlank sep || (sep == 34 || (sep == 60 || sep == 62))
def splitL (xs : List Int) (sep : Int) : List (Nat × List Int) × Nat × Int :=
  if sepBad sep = true then ([], 0, 2) else splN xs sep (xs.length + 1) 0 0 []
/-- Behind a quoted text is further on, within the text. -/
theorem uqL_pos : ∀ (l : List Int) (i : Nat) (acc : List Int), i ≤ (uqL l i acc).2.1 ∧ (uqL l i acc).2.1 ≤ i + l.length ∧ ((uqL l i acc).2.2 = 0 → i < (uqL l i acc).2.1)
  | [], i, acc => by unfold uqL; exact ⟨Nat.le_refl _, by simp, fun h => by cases h⟩
  | c :: l, i, acc => by
    unfold uqL
    split
    · exact ⟨by simp, by simp, fun _ => by simp⟩
    · split
      · match l with
        | [] => exact ⟨by simp, by simp, fun h => by cases h⟩
        | d :: r2 =>
          dsimp only
          split
          · have h := uqL_pos r2 (i + 2) (acc ++ [d])
            simp only [List.length_cons]
            exact ⟨by omega, by omega, fun h0 => by have := h.2.2 h0; omega⟩
          · exact ⟨Nat.le_refl _, by simp, fun h => by cases h⟩
      · split
        · exact ⟨Nat.le_refl _, by simp, fun h => by cases h⟩
        · have h := uqL_pos l (i + 1) (acc ++ [c])
          simp only [List.length_cons]
          exact ⟨by omega, by omega, fun h0 => by have := h.2.2 h0; omega⟩
theorem unq_pos {xs : List Int} {i : Nat} (hi : i ≤ xs.length) : (unq xs i).2.1 ≤ xs.length ∧ ((unq xs i).2.2 = 0 → i < (unq xs i).2.1) := by
  unfold unq
  rw [if_neg (by omega)]
  split
  · exact ⟨by simp; omega, fun h => by cases h⟩
  · rename_i hq
    have hlt : i < xs.length := by
      rcases Nat.lt_or_ge i xs.length with h | h
      · exact h
      · exact absurd (Or.inl (by omega)) hq
    rw [Int.toNat_natCast]
    have h := uqL_pos (xs.drop (i + 1)) (i + 1) []
    rw [List.length_drop] at h
    exact ⟨by omega, fun h0 => by have := h.2.2 h0; omega⟩
end Go.Proofs.YtcnkjgjimcddiaaGreatDoor
namespace Go.Proofs.YtcnkjgjimcddiaaGreatDoor
open Go.RowKit

def lowC (c : Int) : Int := if 65 ≤ c ∧ c ≤ 90 then c + 32 else c
def lowS (l : List Int) : List Int := l.map lowC
theorem lowS_len (l : List Int) : (lowS l).length = l.length := by simp [lowS]
theorem lowC_by {c : Int} (h : 0 ≤ c ∧ c < 256) : 0 ≤ lowC c ∧ lowC c < 256 := by unfold lowC; split <;> omega
theorem lowS_by {l : List Int} (h : By l) : By (lowS l) := fun x hx => by
  obtain ⟨c, hc, rfl⟩ := List.mem_map.1 hx
  exact lowC_by (h c hc)
def clean (l : List Int) : Bool := l.all fun c => !isCtl c
def escC (c : Int) : List Int := if c = 34 ∨ c = 92 then [92, c] else [c]
def escL (l : List Int) : List Int := l.flatMap escC
def quoteL (l : List Int) : List Int := 34 :: (escL l ++ [34])
def isToken (l : List Int) : Bool := !l.isEmpty && (skipTo isTok l 0 == l.length)
/-- A field: its name and its value. -/
def fldL (xs : List Int) : Option (List Int × List Int) :=
  if skipTo isTok xs 0 = 0 ∨ skipTo isBlank xs (skipTo isTok xs 0) = xs.length ∨ xs.getD (skipTo isBlank xs (skipTo isTok xs 0)) 0 ≠ 61 then none
  else
    if skipTo isBlank xs (skipTo isBlank xs (skipTo isTok xs 0) + 1) < xs.length ∧ xs.getD (skipTo isBlank xs (skipTo isBlank xs (skipTo isTok xs 0) + 1)) 0 = 34 then
      if (unq xs (skipTo isBlank xs (skipTo isBlank xs (skipTo isTok xs 0) + 1))).2.2 ≠ 0 ∨ (unq xs (skipTo isBlank xs (skipTo isBlank xs (skipTo isTok xs 0) + 1))).2.1 ≠ xs.length then none
      else some (lowS (xs.take (skipTo isTok xs 0)), (unq xs (skipTo isBlank xs (skipTo isBlank xs (skipTo isTok xs 0) + 1))).1)
    else if isToken (xs.drop (skipTo isBlank xs (skipTo isBlank xs (skipTo isTok xs 0) + 1))) = true then some (lowS (xs.take (skipTo isTok xs 0)), xs.drop (skipTo isBlank xs (skipTo isBlank xs (skipTo isTok xs 0) + 1)))
    else none
def DIGEST : List Int := [100, 105, 103, 101, 115, 116]
/-- The fields of a challenge or of credentials, in order; or the error. -/
def addF (acc : List (List Int × List Int)) (p : List Int) : Except Int (List (List Int × List Int)) :=
  match fldL p with
  | none => .error 5
  | some f => if acc.any (fun q => q.1 == f.1) then .error 7 else .ok (acc ++ [f])
def addAll : List (List Int × List Int) → List (List Int) → Except Int (List (List Int × List Int))
  | acc, [] => .ok acc
  | acc, p :: ps => match addF acc p with
    | .error e => .error e
    | .ok acc' => addAll acc' ps
def fieldsL (xs : List Int) : Except Int (List (List Int × List Int)) :=
  if (trimB xs).length < 7 ∨ lowS ((trimB xs).take 6) ≠ DIGEST ∨ isBlank ((trimB xs).getD 6 0) = false then .error 15
  else if (splitL ((trimB xs).drop 6) 44).2.2 ≠ 0 then .error (splitL ((trimB xs).drop 6) 44).2.2
  else addAll [] ((splitL ((trimB xs).drop 6) 44).1.map (·.2))
def getF (l : List (List Int × List Int)) (name : List Int) : Option (List Int) := (l.find? (fun q => q.1 == name)).map (·.2)
end Go.Proofs.YtcnkjgjimcddiaaGreatDoor
namespace Go.Proofs.YtcnkjgjimcddiaaGreatDoor
open Go.RowKit

def cutL (sep : Int) : List Int → List (List Int)
  | [] => [[]]
  | c :: r => if c = sep then [] :: cutL sep r else
    match cutL sep r with
    | [] => [[c]]
    | p :: ps => (c :: p) :: ps
def glue (p : List Int) : List (List Int) → List (List Int)
  | [] => [p]
  | q :: qs => (p ++ q) :: qs
def bl (l : List UInt8) : List Int := l.map fun c => (c.toNat : Int)
theorem byteL_bl (s : ByteArray) : byteL s = bl s.data.toList := rfl
theorem bl_by (l : List UInt8) : By (bl l) := fun x hx => by
  obtain ⟨c, _, rfl⟩ := List.mem_map.1 hx
  have := c.toNat_lt
  omega
theorem bl_inj {a b : List UInt8} (h : bl a = bl b) : a = b := by
  induction a generalizing b with
  | nil => cases b with
    | nil => rfl
    | cons _ _ => cases h
  | cons x a ih => cases b with
    | nil => cases h
    | cons y b =>
      unfold bl at h
      rw [List.map_cons, List.map_cons, List.cons.injEq] at h
      have hxy : x = y := UInt8.toNat_inj.1 (by omega)
      rw [hxy, ih h.2]
theorem byteL_inj {s t : ByteArray} (h : byteL s = byteL t) : s = t := by rw [← str_byteL s, ← str_byteL t, h]
theorem byteL_mk (l : List UInt8) : byteL ⟨l.toArray⟩ = bl l := rfl
theorem rtrim_cons (c : Int) (l : List Int) : rtrim (c :: l) = if rtrim l = [] ∧ isBlank c = true then [] else c :: rtrim l := by
  unfold rtrim
  rw [List.reverse_cons, List.dropWhile_append]
  by_cases h : (l.reverse.dropWhile isBlank).isEmpty = true
  · have h0 : l.reverse.dropWhile isBlank = [] := by simpa using h
    rw [if_pos h, h0]
    by_cases hc : isBlank c = true
    · simp [hc, List.dropWhile]
    · simp [hc, List.dropWhile]
  · have h0 : l.reverse.dropWhile isBlank ≠ [] := fun e => h (by rw [e]; rfl)
    rw [if_neg h, if_neg (fun e => h0 (by simpa using e.1)), List.reverse_append]
    rfl
theorem ltrim_rtrim : ∀ l : List Int, ltrim (rtrim l) = rtrim (ltrim l)
  | [] => rfl
  | c :: l => by
    have ih := ltrim_rtrim l
    rw [rtrim_cons]
    by_cases hc : isBlank c = true
    · have hl : ltrim (c :: l) = ltrim l := by unfold ltrim; rw [List.dropWhile_cons, if_pos hc]
      rw [hl]
      by_cases hr : rtrim l = []
      · rw [if_pos ⟨hr, hc⟩, ← ih, hr]
      · rw [if_neg (fun e => hr e.1), ← ih]
        unfold ltrim
        rw [List.dropWhile_cons, if_pos hc]
    · have hl : ltrim (c :: l) = c :: l := by unfold ltrim; rw [List.dropWhile_cons, if_neg hc]
      rw [hl, if_neg (fun e => hc e.2), rtrim_cons, if_neg (fun e => hc e.2)]
      unfold ltrim
      rw [List.dropWhile_cons, if_neg hc]
theorem blank_of (c : UInt8) : ([32, 9] : List UInt8).contains c = isBlank (c.toNat : Int) := by
  unfold isBlank
  rw [Bool.eq_iff_iff]
  simp only [List.contains_cons, List.contains_nil, Bool.or_eq_true, beq_iff_eq, Bool.or_false]
  rw [← UInt8.toNat_inj, ← UInt8.toNat_inj]
  simp
  omega
theorem bl_dropWhile (l : List UInt8) : bl (l.dropWhile (([32, 9] : List UInt8).contains ·)) = (bl l).dropWhile isBlank := by
  induction l with
  | nil => rfl
  | cons c l ih =>
    rw [List.dropWhile_cons, show bl (c :: l) = (c.toNat : Int) :: bl l from rfl, List.dropWhile_cons, blank_of]
    split
    · exact ih
    · rfl
theorem bl_reverse (l : List UInt8) : bl l.reverse = (bl l).reverse := by unfold bl; rw [List.map_reverse]
theorem bl_trimRight (l : List UInt8) : bl (Lib.trimRightS l [32, 9]) = rtrim (bl l) := by
  unfold Lib.trimRightS rtrim
  rw [bl_reverse, bl_dropWhile, bl_reverse]
theorem bl_trim (l : List UInt8) : bl (Lib.trimS l [32, 9]) = trimB (bl l) := by
  unfold Lib.trimS Lib.trimLeftS
  rw [bl_dropWhile, bl_trimRight]
  exact ltrim_rtrim _
def joinL (sep : List Int) (l : List (List Int)) : List Int := sep.intercalate l
theorem bl_strOfNums {l : List Int} (h : By l) : bl (strOfNums l).data.toList = l := byteL_str h
theorem contains_by (zs : List ByteArray) (x : ByteArray) : Lib.containsS zs x = (zs.map byteL).contains (byteL x) := by
  rw [Bool.eq_iff_iff, Lib.containsS_iff, List.contains_iff_mem, List.mem_map]
  exact ⟨fun h => ⟨x, h, rfl⟩, fun ⟨y, hy, e⟩ => by rw [← byteL_inj e]; exact hy⟩
end Go.Proofs.YtcnkjgjimcddiaaGreatDoor
namespace Go.Proofs.YtcnkjgjimcddiaaGreatDoor
open Go.RowKit

theorem ltrim_sub (l : List Int) : (ltrim l).Sublist l := List.dropWhile_sublist _
theorem rtrim_sub (l : List Int) : (rtrim l).Sublist l := by
  unfold rtrim
  have h := (List.dropWhile_sublist isBlank (l := l.reverse)).reverse
  rwa [List.reverse_reverse] at h
theorem trimB_sub (l : List Int) : (trimB l).Sublist l := (rtrim_sub _).trans (ltrim_sub l)
theorem subL_sub (l : List Int) (a b : Nat) : (subL l a b).Sublist l := (List.take_sublist _ _).trans (List.drop_sublist _ _)
theorem By.sub {a l : List Int} (h : By l) (hs : a.Sublist l) : By a := fun x hx => h x (hs.subset hx)
theorem piece_sub (xs : List Int) (a b : Nat) : (pieceOf xs a b).2.Sublist xs := (trimB_sub _).trans (subL_sub xs a b)
theorem uqL_mem : ∀ (l : List Int) (i : Nat) (acc : List Int), (∀ x ∈ (uqL l i acc).1, x ∈ acc ∨ x ∈ l) ∧ (uqL l i acc).1.length ≤ acc.length + l.length
  | [], i, acc => by unfold uqL; exact ⟨(fun x hx => by cases hx), by simp⟩
  | c :: l, i, acc => by
    rw [uqL.eq_def]
    dsimp only
    split
    · exact ⟨fun x hx => .inl hx, by simp⟩
    · split
      · match l with
        | [] => exact ⟨(fun x hx => by cases hx), by simp⟩
        | d :: r2 =>
          dsimp only
          split
          · have h := uqL_mem r2 (i + 2) (acc ++ [d])
            refine ⟨fun x hx => ?_, by have := h.2; simp at this ⊢; omega⟩
            rcases h.1 x hx with h1 | h1
            · rcases List.mem_append.1 h1 with h2 | h2
              · exact .inl h2
              · rw [List.mem_singleton] at h2; subst h2; exact .inr (by simp)
            · exact .inr (by simp [h1])
          · exact ⟨(fun x hx => by cases hx), by simp⟩
      · split
        · exact ⟨(fun x hx => by cases hx), by simp⟩
        · have h := uqL_mem l (i + 1) (acc ++ [c])
          refine ⟨fun x hx => ?_, by have := h.2; simp at this ⊢; omega⟩
          rcases h.1 x hx with h1 | h1
          · rcases List.mem_append.1 h1 with h2 | h2
            · exact .inl h2
            · rw [List.mem_singleton] at h2; subst h2; exact .inr (by simp)
          · exact .inr (by simp [h1])
theorem unq_mem (xs : List Int) (z : Int) : (∀ x ∈ (unq xs z).1, x ∈ xs) ∧ (unq xs z).1.length ≤ xs.length := by
  unfold unq
  split
  · exact ⟨(fun x hx => by cases hx), by simp⟩
  · split
    · exact ⟨(fun x hx => by cases hx), by simp⟩
    · have h := uqL_mem (xs.drop (z.toNat + 1)) (z.toNat + 1) []
      refine ⟨fun x hx => ?_, by have h2 := h.2; have h3 := (List.drop_sublist (z.toNat + 1) xs).length_le; simp only [List.length_nil] at h2; omega⟩
      rcases h.1 x hx with h1 | h1
      · cases h1
      · exact (List.drop_sublist _ _).subset h1
/-- What a field's name and value hold. -/
def fldOK (m : Nat) (q : List Int × List Int) : Prop := By q.1 ∧ By q.2 ∧ q.1.length ≤ m ∧ q.2.length ≤ m ∧ lowS q.1 = q.1
theorem splN_ok (xs : List Int) (sep : Int) : ∀ (f i b : Nat) (acc : List (Nat × List Int)), i ≤ xs.length → (∀ p ∈ acc, p.2.Sublist xs) → (∀ p ∈ (splN xs sep f i b acc).1, p.2.Sublist xs) ∧ (splN xs sep f i b acc).1.length ≤ acc.length + (xs.length - i) + 1
  | 0, i, b, acc, _, _ => by unfold splN; exact ⟨(fun p hp => by cases hp), by simp⟩
  | f + 1, i, b, acc, hi, ha => by
    have push : ∀ (a e : Nat), ∀ p ∈ acc ++ [pieceOf xs a e], p.2.Sublist xs := fun a e p hp => by
      rcases List.mem_append.1 hp with h | h
      · exact ha p h
      · rw [List.mem_singleton] at h; subst h; exact piece_sub xs a e
    rw [splN]
    split
    · exact ⟨push _ _, by simp <;> omega⟩
    · rename_i hlt
      split
      · split
        · exact ⟨(fun p hp => by cases hp), by simp⟩
        · rename_i hu
          have hp := unq_pos (xs := xs) (i := i) hi
          have h0 : (unq xs i).2.2 = 0 := by omega
          have h1 := hp.2 h0
          have h := splN_ok xs sep f (unq xs i).2.1 b acc hp.1 ha
          exact ⟨h.1, by have := h.2; omega⟩
      · split
        · split
          · exact ⟨(fun p hp => by cases hp), by simp⟩
          · rename_i hk
            have hge := skip_ge (fun c => c != 62) xs i
            have h := splN_ok xs sep f (skipTo (fun c => c != 62) xs i + 1) b acc (by omega) ha
            exact ⟨h.1, by have := h.2; omega⟩
        · split
          · exact ⟨(fun p hp => by cases hp), by simp⟩
          · split
            · have h := splN_ok xs sep f (i + 1) (i + 1) (acc ++ [pieceOf xs b i]) (by omega) (push _ _)
              exact ⟨h.1, by have := h.2; rw [List.length_append] at this; simp at this ⊢; omega⟩
            · have h := splN_ok xs sep f (i + 1) b acc (by omega) ha
              exact ⟨h.1, by have := h.2; omega⟩
theorem splitL_ok (xs : List Int) (sep : Int) : (∀ p ∈ (splitL xs sep).1, p.2.Sublist xs) ∧ (splitL xs sep).1.length ≤ xs.length + 1 := by
  unfold splitL
  split
  · exact ⟨(fun p hp => by cases hp), by simp⟩
  · have h := splN_ok xs sep (xs.length + 1) 0 0 [] (Nat.zero_le _) (fun p hp => by cases hp)
    exact ⟨h.1, by have := h.2; simpa using this⟩
end Go.Proofs.YtcnkjgjimcddiaaGreatDoor
