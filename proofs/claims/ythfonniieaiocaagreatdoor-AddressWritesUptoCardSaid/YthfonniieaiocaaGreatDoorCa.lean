/- Plain words for texts: lists of bytes as integers; classes of bytes; what stands from a place on. And what stands behind it. -/
import Derived.WalkKit
import Derived.Laws.BytesArg
import Derived.Lib.Hide
import Derived.Lib.SplitLaws
import Derived.Lib.SlTrimSet
import Derived.Lib.SlicesS
import Derived.Lib.Join
import Derived.Test.YthfonniieaiocaaGreatDoorRows
import Derived.WalkSpells
import Derived.WalkLawsBesides
import Derived.Deep.QuietTactic
import Derived.BigQuiet
set_option linter.unusedVariables false
set_option linter.unusedSimpArgs false
namespace Go.Proofs.YthfonniieaiocaaGreatDoor
open Go.RowKit
theorem kd {p : Prop} (h : p) : Hid p := Lib.hid h

def By (bs : List Int) : Prop := ∀ x ∈ bs, 0 ≤ x ∧ x < 256
def byteL (s : ByteArray) : List Int := s.data.toList.map fun c => (c.toNat : Int)
theorem byteL_len (s : ByteArray) : (byteL s).length = s.size := by unfold byteL; rw [List.length_map]; rfl
theorem byteL_by (s : ByteArray) : By (byteL s) := fun x hx => by
  obtain ⟨c, _, rfl⟩ := List.mem_map.1 hx
  have := c.toNat_lt
  omega
theorem getD_some {l : List Int} {i : Nat} (h : i < l.length) : l[i]? = some (l.getD i 0) := by
  rw [List.getD_eq_getElem?_getD, List.getElem?_eq_getElem h]; rfl
theorem getD_mem {l : List Int} {i : Nat} (h : i < l.length) : l.getD i 0 ∈ l := List.mem_of_getElem? (getD_some h)
theorem byteL_at (s : ByteArray) {i : Nat} (hi : i < s.size) : ((s[i]).toNat : Int) = (byteL s).getD i 0 := by
  have h : i < s.data.toList.length := hi
  rw [List.getD_eq_getElem?_getD, byteL, List.getElem?_map, List.getElem?_eq_getElem h]
  rfl
theorem byteL_str {l : List Int} (h : By l) : byteL (strOfNums l) = l := by
  unfold byteL
  rw [strOfNums_data, List.map_map]
  conv => rhs; rw [← List.map_id l]
  refine List.map_congr_left fun x hx => ?_
  have := h x hx
  simp only [Function.comp, id, UInt8.toNat_ofNat']
  omega
theorem str_byteL (s : ByteArray) : strOfNums (byteL s) = s := by
  apply ByteArray.ext
  apply Array.toList_inj.1
  rw [strOfNums_data, byteL, List.map_map]
  conv => rhs; rw [← List.map_id s.data.toList]
  refine List.map_congr_left fun c _ => ?_
  simp [Function.comp]
theorem str_app (a b : List Int) : strOfNums a ++ strOfNums b = strOfNums (a ++ b) := by
  apply ByteArray.ext
  rw [ByteArray.data_append]
  simp [strOfNums]
theorem byteL_extract (s : ByteArray) (a b : Nat) : byteL (s.extract a b) = ((byteL s).drop a).take (b - a) := by
  unfold byteL
  rw [← List.map_drop, ← List.map_take]
  congr 1
  rw [ByteArray.data_extract, Array.toList_extract]
theorem take_snocI (bs : List Int) {k : Nat} (h : k < bs.length) : bs.take (k + 1) = bs.take k ++ [bs.getD k 0] := by
  rw [List.take_succ_eq_append_getElem h, List.getD_eq_getElem?_getD, List.getElem?_eq_getElem h]; rfl
theorem drop_consI (bs : List Int) {k : Nat} (h : k < bs.length) : bs.drop k = bs.getD k 0 :: bs.drop (k + 1) := by
  rw [List.drop_eq_getElem_cons h, List.getD_eq_getElem?_getD, List.getElem?_eq_getElem h]; rfl

def isBlank (c : Int) : Bool := c == 32 || c == 9
def isCtl (c : Int) : Bool := (decide (c < 32) && !(c == 9)) || c == 127
def isTok (c : Int) : Bool := (decide (97 ≤ c) && decide (c ≤ 122)) || ((decide (65 ≤ c) && decide (c ≤ 90)) || ((decide (48 ≤ c) && decide (c ≤ 57)) || (c == 45 || (c == 46 || (c == 33 || (c == 37 || (c == 42 || (c == 95 || (c == 43 || (c == 39 || (c == 126 || c == 96)))))))))))
def skipTo (p : Int → Bool) (xs : List Int) (i : Nat) : Nat := i + ((xs.drop i).takeWhile p).length
theorem skip_yes {p : Int → Bool} {xs : List Int} {i : Nat} (h : i < xs.length) (hp : p (xs.getD i 0) = true) : skipTo p xs i = skipTo p xs (i + 1) := by
  unfold skipTo
  rw [drop_consI xs h, List.takeWhile_cons, if_pos hp, List.length_cons]
  omega
theorem skip_no {p : Int → Bool} {xs : List Int} {i : Nat} (h : i < xs.length) (hp : p (xs.getD i 0) = false) : skipTo p xs i = i := by
  unfold skipTo
  rw [drop_consI xs h, List.takeWhile_cons, if_neg (by rw [hp]; decide)]
  rfl
theorem skip_end {p : Int → Bool} {xs : List Int} {i : Nat} (h : xs.length ≤ i) : skipTo p xs i = i := by
  unfold skipTo
  rw [List.drop_of_length_le h]
  rfl
theorem skip_le {p : Int → Bool} {xs : List Int} {i : Nat} (h : i ≤ xs.length) : skipTo p xs i ≤ xs.length := by
  unfold skipTo
  have h1 := (List.takeWhile_sublist p (l := xs.drop i)).length_le
  rw [List.length_drop] at h1
  omega
theorem skip_ge (p : Int → Bool) (xs : List Int) (i : Nat) : i ≤ skipTo p xs i := Nat.le_add_right _ _
def clip (z : Int) (n : Nat) : Nat := min z.toNat n
def uqL : List Int → Nat → List Int → List Int × Nat × Int
  | [], i, _ => ([], i, 6)
  | c :: r, i, acc =>
    if c = 34 then (acc, i + 1, 0)
    else if c = 92 then
      match r with
      | [] => ([], i + 1, 6)
      | d :: r2 => if 32 ≤ d ∧ d ≤ 126 then uqL r2 (i + 2) (acc ++ [d]) else ([], i, 5)
    else if isCtl c = true then ([], i, 5)
    else uqL r (i + 1) (acc ++ [c])
def unq (xs : List Int) (at_ : Int) : List Int × Nat × Int :=
  if at_ < 0 ∨ (xs.length : Int) < at_ then ([], 0, 2)
  else if at_ = xs.length ∨ xs.getD at_.toNat 0 ≠ 34 then ([], at_.toNat, 5)
  else uqL (xs.drop (at_.toNat + 1)) (at_.toNat + 1) []

def ltrim (l : List Int) : List Int := l.dropWhile isBlank
def rtrim (l : List Int) : List Int := (l.reverse.dropWhile isBlank).reverse
def trimB (l : List Int) : List Int := rtrim (ltrim l)
def subL (xs : List Int) (a b : Nat) : List Int := (xs.drop a).take (b - a)
theorem subL_len {xs : List Int} {a b : Nat} (hb : b ≤ xs.length) : (subL xs a b).length = b - a := by
  unfold subL; rw [List.length_take, List.length_drop]; omega
def pieceOf (xs : List Int) (a b : Nat) : Nat × List Int := (a + ((subL xs a b).takeWhile isBlank).length, trimB (subL xs a b))
def splN (xs : List Int) (sep : Int) : Nat → Nat → Nat → List (Nat × List Int) → List (Nat × List Int) × Nat × Int
  | 0, _, _, _ => ([], 0, 0)
  | f + 1, i, b, acc =>
    if xs.length ≤ i then (acc ++ [pieceOf xs b xs.length], 0, 0)
    else if xs.getD i 0 = 34 then
      if (unq xs i).2.2 ≠ 0 then ([], (unq xs i).2.1, (unq xs i).2.2) else splN xs sep f (unq xs i).2.1 b acc
    else if xs.getD i 0 = 60 then
      if xs.length ≤ skipTo (fun c => c != 62) xs i then ([], xs.length, 6) else splN xs sep f (skipTo (fun c => c != 62) xs i + 1) b acc
    else if xs.getD i 0 = 62 then ([], i, 5)
    else if xs.getD i 0 = sep then splN xs sep f (i + 1) (i + 1) (acc ++ [pieceOf xs b i])
    else splN xs sep f (i + 1) b acc
def sepBad (sep : Int) : Bool := isBlank sep || (sep == 34 || (sep == 60 || sep == 62))
def splitL (xs : List Int) (sep : Int) : List (Nat × List Int) × Nat × Int :=
  if sepBad sep = true then ([], 0, 2) else splN xs sep (xs.length + 1) 0 0 []
theorem uqL_pos : ∀ (l : List Int) (i : Nat) (acc : List Int), i ≤ (uqL l i acc).2.1 ∧ (uqL l i acc).2.1 ≤ i + l.length ∧ ((uqL l i acc).2.2 = 0 → i < (uqL l i acc).2.1)
  | [], i, acc => by unfold uqL; exact ⟨Nat.le_refl _, by simp, fun h => by cases h⟩
  | c :: l, i, acc => by
    unfold uqL
    split
    · exact ⟨by simp, by simp, fun _ => by simp⟩
    · split
      · match l with
        | [] => exact ⟨by simp, by simp, fun h => by cases h⟩
        | d :: r2 =>
          dsimp only
          split
          · have h := uqL_pos r2 (i + 2) (acc ++ [d])
            simp only [List.length_cons]
            exact ⟨by omega, by omega, fun h0 => by have := h.2.2 h0; omega⟩
          · exact ⟨Nat.le_refl _, by simp, fun h => by cases h⟩
      · split
        · exact ⟨Nat.le_refl _, by simp, fun h => by cases h⟩
        · have h := uqL_pos l (i + 1) (acc ++ [c])
          simp only [List.length_cons]
          exact ⟨by omega, by omega, fun h0 => by have := h.2.2 h0; omega⟩
theorem unq_pos {xs : List Int} {i : Nat} (hi : i ≤ xs.length) : (unq xs i).2.1 ≤ xs.length ∧ ((unq xs i).2.2 = 0 → i < (unq xs i).2.1) := by
  unfold unq
  rw [if_neg (by omega)]
  split
  · exact ⟨by simp; omega, fun h => by cases h⟩
  · rename_i hq
    have hlt : i < xs.length := by
      rcases Nat.lt_or_ge i xs.length with h | h
      · exact h
      · exact absurd (Or.inl (by omega)) hq
    rw [Int.toNat_natCast]
    have h := uqL_pos (xs.drop (i + 1)) (i + 1) []
    rw [List.length_drop] at h
    exact ⟨by omega, fun h0 => by have := h.2.2 h0; omega⟩

def lowC (c : Int) : Int := if 65 ≤ c ∧ c ≤ 90 then c + 32 else c
def lowS (l : List Int) : List Int := l.map lowC
theorem lowS_len (l : List Int) : (lowS l).length = l.length := by simp [lowS]
theorem lowC_by {c : Int} (h : 0 ≤ c ∧ c < 256) : 0 ≤ lowC c ∧ lowC c < 256 := by unfold lowC; split <;> omega
theorem lowS_by {l : List Int} (h : By l) : By (lowS l) := fun x hx => by
  obtain ⟨c, hc, rfl⟩ := List.mem_map.1 hx
  exact lowC_by (h c hc)
def clean (l : List Int) : Bool := l.all fun c => !isCtl c
def escC (c : Int) : List Int := if c = 34 ∨ c = 92 then [92, c] else [c]
def escL (l : List Int) : List Int := l.flatMap escC
def quoteL (l : List Int) : List Int := 34 :: (escL l ++ [34])
theorem escL_snoc (l : List Int) (c : Int) : escL (l ++ [c]) = escL l ++ escC c := by simp [escL]
theorem escL_len (l : List Int) : (escL l).length ≤ 2 * l.length := by
  induction l with
  | nil => simp [escL]
  | cons c l ih =>
    rw [show escL (c :: l) = escC c ++ escL l from rfl, List.length_append, List.length_cons]
    have : (escC c).length ≤ 2 := by unfold escC; split <;> simp
    omega
theorem escL_by {l : List Int} (h : By l) : By (escL l) := fun x hx => by
  obtain ⟨c, hc, hx⟩ := List.mem_flatMap.1 hx
  have := h c hc
  unfold escC at hx
  split at hx
  · simp at hx
    rcases hx with rfl | rfl <;> omega
  · simp at hx
    subst hx
    exact this
theorem quoteL_by {l : List Int} (h : By l) : By (quoteL l) := fun x hx => by
  unfold quoteL at hx
  rcases List.mem_cons.1 hx with rfl | hx
  · omega
  · rcases List.mem_append.1 hx with hx | hx
    · exact escL_by h x hx
    · rw [List.mem_singleton] at hx; omega
def isToken (l : List Int) : Bool := !l.isEmpty && (skipTo isTok l 0 == l.length)

def cutL (sep : Int) : List Int → List (List Int)
  | [] => [[]]
  | c :: r => if c = sep then [] :: cutL sep r else
    match cutL sep r with
    | [] => [[c]]
    | p :: ps => (c :: p) :: ps
def glue (p : List Int) : List (List Int) → List (List Int)
  | [] => [p]
  | q :: qs => (p ++ q) :: qs
theorem cutL_no (sep c : Int) (r : List Int) (h : c ≠ sep) : cutL sep (c :: r) = glue [c] (cutL sep r) := by
  rw [cutL, if_neg h]
  cases cutL sep r <;> rfl
theorem cutL_hit (sep : Int) (r : List Int) : cutL sep (sep :: r) = [] :: cutL sep r := by rw [cutL, if_pos rfl]
def bl (l : List UInt8) : List Int := l.map fun c => (c.toNat : Int)
theorem byteL_bl (s : ByteArray) : byteL s = bl s.data.toList := rfl
theorem bl_by (l : List UInt8) : By (bl l) := fun x hx => by
  obtain ⟨c, _, rfl⟩ := List.mem_map.1 hx
  have := c.toNat_lt
  omega
theorem bl_inj {a b : List UInt8} (h : bl a = bl b) : a = b := by
  induction a generalizing b with
  | nil => cases b with
    | nil => rfl
    | cons _ _ => cases h
  | cons x a ih => cases b with
    | nil => cases h
    | cons y b =>
      unfold bl at h
      rw [List.map_cons, List.map_cons, List.cons.injEq] at h
      have hxy : x = y := UInt8.toNat_inj.1 (by omega)
      rw [hxy, ih h.2]
theorem byteL_inj {s t : ByteArray} (h : byteL s = byteL t) : s = t := by rw [← str_byteL s, ← str_byteL t, h]
theorem byteL_mk (l : List UInt8) : byteL ⟨l.toArray⟩ = bl l := rfl
theorem splitK_cut (c : UInt8) : ∀ (s : List UInt8) (k : Nat), Lib.count s [c] = k → (Lib.splitK [c] 0 k s).map bl = cutL c.toNat (bl s)
  | [], k, h => by
    have h0 : k = 0 := by rw [← h]; rfl
    subst h0; rfl
  | b :: l, k, h => by
    by_cases hb : b = c
    · subst hb
      rw [Lib.count_cons_eq] at h
      obtain ⟨k, rfl⟩ : ∃ j, k = j + 1 := ⟨k - 1, by omega⟩
      have ih := splitK_cut b l k (by omega)
      have hi : Lib.index (b :: l) [b] = 0 := by rw [Lib.index_one]; simp [Lib.indexByte]
      rw [Lib.splitK, hi]
      simp only [show ((0 : Int) == -1) = false from rfl]
      simp only [Bool.false_eq_true, if_false, List.map_cons, Int.toNat_zero, Nat.zero_add, List.take_zero, List.length_cons, List.length_nil, List.drop_succ_cons, List.drop_zero]
      rw [ih, show bl (b :: l) = (b.toNat : Int) :: bl l from rfl, cutL_hit]
      rfl
    · rw [Lib.count_cons_ne b c l hb] at h
      have ih := splitK_cut c l k h
      have hne : ((b.toNat : Nat) : Int) ≠ c.toNat := fun e => hb (UInt8.toNat_inj.1 (by omega))
      have hi : Lib.index (b :: l) [c] = if Lib.index l [c] == -1 then -1 else Lib.index l [c] + 1 := by
        rw [Lib.index_one, Lib.index_one, Lib.indexByte, if_neg (by simpa using hb)]
      rw [show bl (b :: l) = (b.toNat : Int) :: bl l from rfl, cutL_no _ _ _ hne, ← ih]
      cases k with
      | zero => rfl
      | succ k =>
        rw [Lib.splitK, Lib.splitK, hi]
        by_cases h1 : (Lib.index l [c] == -1) = true
        · rw [if_pos h1, if_pos (by rfl), if_pos h1]; rfl
        · have hge : -1 ≤ Lib.index l [c] := Lib.index_ge _ _
          have hne1 : Lib.index l [c] ≠ -1 := fun e => h1 (beq_iff_eq.2 e)
          obtain ⟨i, hi2⟩ := Int.eq_ofNat_of_zero_le (show 0 ≤ Lib.index l [c] by omega)
          rw [if_neg h1, if_neg (fun e => by have := beq_iff_eq.1 e; omega), if_neg h1, hi2]
          rw [show ((i : Int) + 1).toNat = i + 1 by omega, Int.toNat_natCast]
          simp only [Nat.add_zero, List.length_cons, List.length_nil, Nat.zero_add, List.map_cons]
          rw [show i + 1 + 1 = (i + 1) + 1 from rfl, List.take_succ_cons, List.drop_succ_cons]
          rfl
theorem splitB_cut (s : ByteArray) (c : UInt8) : (Lib.splitB ⟨#[c]⟩ 0 (Lib.countB s ⟨#[c]⟩) s).map byteL = cutL c.toNat (byteL s) := by
  have h1 := Lib.splitB_data ⟨#[c]⟩ 0 (Lib.countB s ⟨#[c]⟩) s
  have h2 := splitK_cut c s.data.toList (Lib.countB s ⟨#[c]⟩) rfl
  rw [show (⟨#[c]⟩ : ByteArray).data.toList = [c] from rfl] at h1
  rw [byteL_bl, ← h2, ← h1, List.map_map]
  rfl
def joinL (sep : List Int) (l : List (List Int)) : List Int := sep.intercalate l
theorem joinL_nil (sep : List Int) : joinL sep [] = [] := rfl
theorem joinL_one (sep x : List Int) : joinL sep [x] = x := by simp [joinL, List.intercalate]
theorem joinL_cons (sep x y : List Int) (r : List (List Int)) : joinL sep (x :: y :: r) = x ++ (sep ++ joinL sep (y :: r)) := by simp [joinL, List.intercalate]
theorem joinL_snoc (sep : List Int) : ∀ (l : List (List Int)) (x : List Int), l ≠ [] → joinL sep (l ++ [x]) = joinL sep l ++ (sep ++ x)
  | [], _, h => absurd rfl h
  | [y], x, _ => by rw [List.singleton_append, joinL_cons, joinL_one, joinL_one]
  | y :: z :: r, x, _ => by
    have ih := joinL_snoc sep (z :: r) x (by simp)
    rw [List.cons_append, List.cons_append, joinL_cons, ← List.cons_append, ih, joinL_cons]
    simp [List.append_assoc]
theorem bl_join (sep : List UInt8) : ∀ xs : List (List UInt8), bl (Lib.join xs sep) = joinL (bl sep) (xs.map bl)
  | [] => rfl
  | [x] => by rw [Lib.join_one, List.map_cons, List.map_nil, joinL_one]
  | x :: y :: r => by
    have ih := bl_join sep (y :: r)
    rw [List.map_cons, List.map_cons, joinL_cons, ← List.map_cons, ← ih]
    unfold Lib.join
    simp [List.intercalate, bl]
theorem bl_strOfNums {l : List Int} (h : By l) : bl (strOfNums l).data.toList = l := byteL_str h

theorem subL_sub (l : List Int) (a b : Nat) : (subL l a b).Sublist l := (List.take_sublist _ _).trans (List.drop_sublist _ _)
theorem By.sub {a l : List Int} (h : By l) (hs : a.Sublist l) : By a := fun x hx => h x (hs.subset hx)
theorem uqL_mem : ∀ (l : List Int) (i : Nat) (acc : List Int), (∀ x ∈ (uqL l i acc).1, x ∈ acc ∨ x ∈ l) ∧ (uqL l i acc).1.length ≤ acc.length + l.length
  | [], i, acc => by unfold uqL; exact ⟨(fun x hx => by cases hx), by simp⟩
  | c :: l, i, acc => by
    rw [uqL.eq_def]
    dsimp only
    split
    · exact ⟨fun x hx => .inl hx, by simp⟩
    · split
      · match l with
        | [] => exact ⟨(fun x hx => by cases hx), by simp⟩
        | d :: r2 =>
          dsimp only
          split
          · have h := uqL_mem r2 (i + 2) (acc ++ [d])
            refine ⟨fun x hx => ?_, by have := h.2; simp at this ⊢; omega⟩
            rcases h.1 x hx with h1 | h1
            · rcases List.mem_append.1 h1 with h2 | h2
              · exact .inl h2
              · rw [List.mem_singleton] at h2; subst h2; exact .inr (by simp)
            · exact .inr (by simp [h1])
          · exact ⟨(fun x hx => by cases hx), by simp⟩
      · split
        · exact ⟨(fun x hx => by cases hx), by simp⟩
        · have h := uqL_mem l (i + 1) (acc ++ [c])
          refine ⟨fun x hx => ?_, by have := h.2; simp at this ⊢; omega⟩
          rcases h.1 x hx with h1 | h1
          · rcases List.mem_append.1 h1 with h2 | h2
            · exact .inl h2
            · rw [List.mem_singleton] at h2; subst h2; exact .inr (by simp)
          · exact .inr (by simp [h1])
theorem unq_mem (xs : List Int) (z : Int) : (∀ x ∈ (unq xs z).1, x ∈ xs) ∧ (unq xs z).1.length ≤ xs.length := by
  unfold unq
  split
  · exact ⟨(fun x hx => by cases hx), by simp⟩
  · split
    · exact ⟨(fun x hx => by cases hx), by simp⟩
    · have h := uqL_mem (xs.drop (z.toNat + 1)) (z.toNat + 1) []
      refine ⟨fun x hx => ?_, by have h2 := h.2; have h3 := (List.drop_sublist (z.toNat + 1) xs).length_le; simp only [List.length_nil] at h2; omega⟩
      rcases h.1 x hx with h1 | h1
      · cases h1
      · exact (List.drop_sublist _ _).subset h1
theorem lowC_idem (c : Int) : lowC (lowC c) = lowC c := by
  unfold lowC
  by_cases h : 65 ≤ c ∧ c ≤ 90
  · rw [if_pos h, if_neg (by omega)]
  · rw [if_neg h, if_neg h]
theorem lowS_idem (l : List Int) : lowS (lowS l) = lowS l := by unfold lowS; rw [List.map_map]; exact List.map_congr_left fun c _ => lowC_idem c

theorem ret_bool {a b : Bool} (h : a = b) : Ending.returned (.bool a) = .returned (.bool b) := by rw [h]
theorem blank_any (c : Int) (w : World) (h0 : 0 ≤ c) (h1 : c < 256) : Calls Tryz.prog 175 #[.int .u8 c] w fun e w' => e = .returned (.bool (isBlank c)) ∧ w = w' := by
  go_enter Tryz.func175, Tryz.ntmps175
  unfold isBlank
  by_cases hc : c = 32
  · subst hc
    go_wp2
    go_ret
    exact ⟨rfl, rfl⟩
  · have e1 : (c == 32) = false := by simp [hc]
    go_wp2
    go_ret
    exact ⟨ret_bool (by rw [e1]; rfl), rfl⟩
theorem control_any (c : Int) (w : World) (h0 : 0 ≤ c) (h1 : c < 256) : Calls Tryz.prog 158 #[.int .u8 c] w fun e w' => e = .returned (.bool (isCtl c)) ∧ w = w' := by
  go_enter Tryz.func158, Tryz.ntmps158
  unfold isCtl
  by_cases h2 : c < 32
  · have d2 : decide (c < 32) = true := by simp [h2]
    by_cases hc : c = 9
    · subst hc
      go_wp2
      go_ret
      exact ⟨rfl, rfl⟩
    · have e1 : (c == 9) = false := by simp [hc]
      go_wp2
      go_ret
      exact ⟨ret_bool (by rw [d2, e1]; rfl), rfl⟩
  · have d2 : decide (c < 32) = false := by simp [h2]
    go_wp2
    go_ret
    exact ⟨ret_bool (by first | rfl | (rw [d2]; rfl)), rfl⟩
theorem escaped_any (c : Int) (w : World) (h0 : 0 ≤ c) (h1 : c < 256) : Calls Tryz.prog 176 #[.int .u8 c] w fun e w' => e = .returned (.bool (decide (32 ≤ c ∧ c ≤ 126))) ∧ w = w' := by
  go_enter Tryz.func176, Tryz.ntmps176
  by_cases h2 : 32 ≤ c
  · have d2 : decide (32 ≤ c) = true := by simp [h2]
    go_wp2
    go_ret
    exact ⟨ret_bool (by simp [h2]), rfl⟩
  · have d2 : decide (32 ≤ c) = false := by simp [h2]
    go_wp2
    go_ret
    exact ⟨ret_bool (by simp [h2]), rfl⟩
theorem tok_t {c : Int} (h : (97 ≤ c ∧ c ≤ 122) ∨ (65 ≤ c ∧ c ≤ 90) ∨ (48 ≤ c ∧ c ≤ 57) ∨ c = 45 ∨ c = 46 ∨ c = 33 ∨ c = 37 ∨ c = 42 ∨ c = 95 ∨ c = 43 ∨ c = 39 ∨ c = 126 ∨ c = 96) : isTok c = true := by
  unfold isTok
  simp only [Bool.or_eq_true, Bool.and_eq_true, decide_eq_true_eq, beq_iff_eq]
  exact h
theorem tok_f {c : Int} (h : ¬ ((97 ≤ c ∧ c ≤ 122) ∨ (65 ≤ c ∧ c ≤ 90) ∨ (48 ≤ c ∧ c ≤ 57) ∨ c = 45 ∨ c = 46 ∨ c = 33 ∨ c = 37 ∨ c = 42 ∨ c = 95 ∨ c = 43 ∨ c = 39 ∨ c = 126 ∨ c = 96)) : isTok c = false := by
  cases e : isTok c with
  | false => rfl
  | true =>
    unfold isTok at e
    simp only [Bool.or_eq_true, Bool.and_eq_true, decide_eq_true_eq, beq_iff_eq] at e
    exact absurd e h
theorem token_any (c : Int) (w : World) (h0 : 0 ≤ c) (h1 : c < 256) : Calls Tryz.prog 183 #[.int .u8 c] w fun e w' => e = .returned (.bool (isTok c)) ∧ w = w' := by
  by_cases hT : (97 ≤ c ∧ c ≤ 122) ∨ (65 ≤ c ∧ c ≤ 90) ∨ (48 ≤ c ∧ c ≤ 57) ∨ c = 45 ∨ c = 46 ∨ c = 33 ∨ c = 37 ∨ c = 42 ∨ c = 95 ∨ c = 43 ∨ c = 39 ∨ c = 126 ∨ c = 96
  · rw [tok_t hT]
    go_enter Tryz.func183, Tryz.ntmps183
    rcases hT with ⟨a, b⟩ | ⟨a, b⟩ | ⟨a, b⟩ | rfl | rfl | rfl | rfl | rfl | rfl | rfl | rfl | rfl | rfl
    · have d1 : decide (97 ≤ c) = true := by simp [a]
      have d2 : decide (c ≤ 122) = true := by simp [b]
      go_wp2
      go_ret
      exact ⟨rfl, rfl⟩
    · have d1 : decide (97 ≤ c) = false := by simp; omega
      have d2 : decide (65 ≤ c) = true := by simp [a]
      have d3 : decide (c ≤ 90) = true := by simp [b]
      go_wp2
      go_ret
      exact ⟨rfl, rfl⟩
    · have d1 : decide (97 ≤ c) = false := by simp; omega
      have d2 : decide (65 ≤ c) = false := by simp; omega
      have d3 : decide (48 ≤ c) = true := by simp [a]
      have d4 : decide (c ≤ 57) = true := by simp [b]
      go_wp2
      go_ret
      exact ⟨rfl, rfl⟩
    all_goals
      go_wp2
      go_ret
      exact ⟨rfl, rfl⟩
  · rw [tok_f hT]
    go_enter Tryz.func183, Tryz.ntmps183
    have n1 : (c == 45) = false := by simp; omega
    have n2 : (c == 46) = false := by simp; omega
    have n3 : (c == 33) = false := by simp; omega
    have n4 : (c == 37) = false := by simp; omega
    have n5 : (c == 42) = false := by simp; omega
    have n6 : (c == 95) = false := by simp; omega
    have n7 : (c == 43) = false := by simp; omega
    have n8 : (c == 39) = false := by simp; omega
    have n9 : (c == 126) = false := by simp; omega
    have n0 : (c == 96) = false := by simp; omega
    by_cases a : 97 ≤ c
    · have d1 : decide (97 ≤ c) = true := by simp [a]
      have d2 : decide (c ≤ 122) = false := by simp; omega
      have d3 : decide (65 ≤ c) = true := by simp; omega
      have d4 : decide (c ≤ 90) = false := by simp; omega
      have d5 : decide (48 ≤ c) = true := by simp; omega
      have d6 : decide (c ≤ 57) = false := by simp; omega
      go_wp2
      go_ret
      exact ⟨rfl, rfl⟩
    · have d1 : decide (97 ≤ c) = false := by simp [a]
      by_cases b : 65 ≤ c
      · have d3 : decide (65 ≤ c) = true := by simp [b]
        have d4 : decide (c ≤ 90) = false := by simp; omega
        have d5 : decide (48 ≤ c) = true := by simp; omega
        have d6 : decide (c ≤ 57) = false := by simp; omega
        go_wp2
        go_ret
        exact ⟨rfl, rfl⟩
      · have d3 : decide (65 ≤ c) = false := by simp [b]
        by_cases b : 48 ≤ c
        · have d5 : decide (48 ≤ c) = true := by simp [b]
          have d6 : decide (c ≤ 57) = false := by simp; omega
          go_wp2
          go_ret
          exact ⟨rfl, rfl⟩
        · have d5 : decide (48 ≤ c) = false := by simp [b]
          go_wp2
          go_ret
          exact ⟨rfl, rfl⟩
end Go.Proofs.YthfonniieaiocaaGreatDoor
