/- Plain words: a text divided at a byte, trimmed at both ends, joined; the shelf's words in mine. -/
import Derived.Test.YtfhbpgickkibmaaDoorPc
import Derived.Lib.SplitLaws
import Derived.Lib.SlTrimSet
import Derived.Lib.SlicesS
import Derived.Lib.Join
namespace Go.Proofs.YtfhbpgickkibmaaDoor
open Go.RowKit

def cutL (sep : Int) : List Int → List (List Int)
  | [] => [[]]
  | c :: r => if c = sep then [] :: cutL sep r else
    match cutL sep r with
    | [] => [[c]]
    | p :: ps => (c :: p) :: ps
def glue (p : List Int) : List (List Int) → List (List Int)
  | [] => [p]
  | q :: qs => (p ++ q) :: qs
theorem cutL_no (sep c : Int) (r : List Int) (h : c ≠ sep) : cutL sep (c :: r) = glue [c] (cutL sep r) := by
  rw [cutL, if_neg h]
  cases cutL sep r <;> rfl
theorem cutL_hit (sep : Int) (r : List Int) : cutL sep (sep :: r) = [] :: cutL sep r := by rw [cutL, if_pos rfl]
theorem glue_glue (p q : List Int) (l : List (List Int)) : glue p (glue q l) = glue (p ++ q) l := by cases l <;> simp [glue]
theorem glue_nil_cut (sep : Int) : ∀ r : List Int, glue [] (cutL sep r) = cutL sep r
  | [] => rfl
  | c :: r => by
    by_cases h : c = sep
    · subst h; rw [cutL_hit]; rfl
    · rw [cutL_no sep c r h, glue_glue]; rfl
def bl (l : List UInt8) : List Int := l.map fun c => (c.toNat : Int)
theorem byteL_bl (s : ByteArray) : byteL s = bl s.data.toList := rfl
theorem bl_by (l : List UInt8) : By (bl l) := fun x hx => by
  obtain ⟨c, _, rfl⟩ := List.mem_map.1 hx
  have := c.toNat_lt
  omega
theorem bl_inj {a b : List UInt8} (h : bl a = bl b) : a = b := by
  induction a generalizing b with
  | nil => cases b with
    | nil => rfl
    | cons _ _ => cases h
  | cons x a ih => cases b with
    | nil => cases h
    | cons y b =>
      unfold bl at h
      rw [List.map_cons, List.map_cons, List.cons.injEq] at h
      have hxy : x = y := UInt8.toNat_inj.1 (by omega)
      rw [hxy, ih h.2]
theorem byteL_inj {s t : ByteArray} (h : byteL s = byteL t) : s = t := by rw [← str_byteL s, ← str_byteL t, h]
theorem byteL_mk (l : List UInt8) : byteL ⟨l.toArray⟩ = bl l := rfl
theorem splitK_cut (c : UInt8) : ∀ (s : List UInt8) (k : Nat), Lib.count s [c] = k → (Lib.splitK [c] 0 k s).map bl = cutL c.toNat (bl s)
  | [], k, h => by
    have h0 : k = 0 := by rw [← h]; rfl
    subst h0; rfl
  | b :: l, k, h => by
    by_cases hb : b = c
    · subst hb
      rw [Lib.count_cons_eq] at h
      obtain ⟨k, rfl⟩ : ∃ j, k = j + 1 := ⟨k - 1, by omega⟩
      have ih := splitK_cut b l k (by omega)
      have hi : Lib.index (b :: l) [b] = 0 := by rw [Lib.index_one]; simp [Lib.indexByte]
      rw [Lib.splitK, hi]
      simp only [show ((0 : Int) == -1) = false from rfl]
      simp only [Bool.false_eq_true, if_false, List.map_cons, Int.toNat_zero, Nat.zero_add, List.take_zero, List.length_cons, List.length_nil, List.drop_succ_cons, List.drop_zero]
      rw [ih, show bl (b :: l) = (b.toNat : Int) :: bl l from rfl, cutL_hit]
      rfl
    · rw [Lib.count_cons_ne b c l hb] at h
      have ih := splitK_cut c l k h
      have hne : ((b.toNat : Nat) : Int) ≠ c.toNat := fun e => hb (UInt8.toNat_inj.1 (by omega))
      have hi : Lib.index (b :: l) [c] = if Lib.index l [c] == -1 then -1 else Lib.index l [c] + 1 := by
        rw [Lib.index_one, Lib.index_one, Lib.indexByte, if_neg (by simpa using hb)]
      rw [show bl (b :: l) = (b.toNat : Int) :: bl l from rfl, cutL_no _ _ _ hne, ← ih]
      cases k with
      | zero => rfl
      | succ k =>
        rw [Lib.splitK, Lib.splitK, hi]
        by_cases h1 : (Lib.index l [c] == -1) = true
        · rw [if_pos h1, if_pos (by rfl), if_pos h1]; rfl
        · have hge : -1 ≤ Lib.index l [c] := Lib.index_ge _ _
          have hne1 : Lib.index l [c] ≠ -1 := fun e => h1 (beq_iff_eq.2 e)
          obtain ⟨i, hi2⟩ := Int.eq_ofNat_of_zero_le (show 0 ≤ Lib.index l [c] by omega)
          rw [if_neg h1, if_neg (fun e => by have := beq_iff_eq.1 e; omega), if_neg h1, hi2]
          rw [show ((i : Int) + 1).toNat = i + 1 by omega, Int.toNat_natCast]
          simp only [Nat.add_zero, List.length_cons, List.length_nil, Nat.zero_add, List.map_cons]
          rw [show i + 1 + 1 = (i + 1) + 1 from rfl, List.take_succ_cons, List.drop_succ_cons]
          rfl
theorem splitB_cut (s : ByteArray) (c : UInt8) : (Lib.splitB ⟨#[c]⟩ 0 (Lib.countB s ⟨#[c]⟩) s).map byteL = cutL c.toNat (byteL s) := by
  have h1 := Lib.splitB_data ⟨#[c]⟩ 0 (Lib.countB s ⟨#[c]⟩) s
  have h2 := splitK_cut c s.data.toList (Lib.countB s ⟨#[c]⟩) rfl
  rw [show (⟨#[c]⟩ : ByteArray).data.toList = [c] from rfl] at h1
  rw [byteL_bl, ← h2, ← h1, List.map_map]
  rfl
theorem cutL_len (s : ByteArray) (c : UInt8) : Lib.countB s ⟨#[c]⟩ + 1 = (cutL c.toNat (byteL s)).length := by
  rw [← splitB_cut, List.length_map, Lib.splitB_all ⟨#[c]⟩ (Nat.le_refl 1) 0 _ s rfl]

theorem rtrim_cons (c : Int) (l : List Int) : rtrim (c :: l) = if rtrim l = [] ∧ isBlank c = true then [] else c :: rtrim l := by
  unfold rtrim
  rw [List.reverse_cons, List.dropWhile_append]
  by_cases h : (l.reverse.dropWhile isBlank).isEmpty = true
  · have h0 : l.reverse.dropWhile isBlank = [] := by simpa using h
    rw [if_pos h, h0]
    by_cases hc : isBlank c = true
    · simp [hc, List.dropWhile]
    · simp [hc, List.dropWhile]
  · have h0 : l.reverse.dropWhile isBlank ≠ [] := fun e => h (by rw [e]; rfl)
    rw [if_neg h, if_neg (fun e => h0 (by simpa using e.1)), List.reverse_append]
    rfl
theorem ltrim_rtrim : ∀ l : List Int, ltrim (rtrim l) = rtrim (ltrim l)
  | [] => rfl
  | c :: l => by
    have ih := ltrim_rtrim l
    rw [rtrim_cons]
    by_cases hc : isBlank c = true
    · have hl : ltrim (c :: l) = ltrim l := by unfold ltrim; rw [List.dropWhile_cons, if_pos hc]
      rw [hl]
      by_cases hr : rtrim l = []
      · rw [if_pos ⟨hr, hc⟩, ← ih, hr]
      · rw [if_neg (fun e => hr e.1), ← ih]
        unfold ltrim
        rw [List.dropWhile_cons, if_pos hc]
    · have hl : ltrim (c :: l) = c :: l := by unfold ltrim; rw [List.dropWhile_cons, if_neg hc]
      rw [hl, if_neg (fun e => hc e.2), rtrim_cons, if_neg (fun e => hc e.2)]
      unfold ltrim
      rw [List.dropWhile_cons, if_neg hc]
theorem blank_of (c : UInt8) : ([32, 9] : List UInt8).contains c = isBlank (c.toNat : Int) := by
  unfold isBlank
  rw [Bool.eq_iff_iff]
  simp only [List.contains_cons, List.contains_nil, Bool.or_eq_true, beq_iff_eq, Bool.or_false]
  rw [← UInt8.toNat_inj, ← UInt8.toNat_inj]
  simp
  omega
theorem bl_dropWhile (l : List UInt8) : bl (l.dropWhile (([32, 9] : List UInt8).contains ·)) = (bl l).dropWhile isBlank := by
  induction l with
  | nil => rfl
  | cons c l ih =>
    rw [List.dropWhile_cons, show bl (c :: l) = (c.toNat : Int) :: bl l from rfl, List.dropWhile_cons, blank_of]
    split
    · exact ih
    · rfl
theorem bl_reverse (l : List UInt8) : bl l.reverse = (bl l).reverse := by unfold bl; rw [List.map_reverse]
theorem bl_trimRight (l : List UInt8) : bl (Lib.trimRightS l [32, 9]) = rtrim (bl l) := by
  unfold Lib.trimRightS rtrim
  rw [bl_reverse, bl_dropWhile, bl_reverse]
theorem bl_trim (l : List UInt8) : bl (Lib.trimS l [32, 9]) = trimB (bl l) := by
  unfold Lib.trimS Lib.trimLeftS
  rw [bl_dropWhile, bl_trimRight]
  exact ltrim_rtrim _
/-- A text trimmed, by the reference's way: up to the last byte that is no blank. -/
theorem rtrim_take (l : List Int) : ∀ n, n ≤ l.length → (∀ j, n ≤ j → j < l.length → isBlank (l.getD j 0) = true) → (n = 0 ∨ isBlank (l.getD (n - 1) 0) = false) → rtrim l = l.take n := by
  induction l with
  | nil => intro n hn _ _; simp at hn; subst hn; rfl
  | cons c l ih =>
    intro n hn h1 h2
    cases n with
    | zero =>
      have := ih 0 (Nat.zero_le _) (fun j _ hj => by have := h1 (j + 1) (by omega) (by simp; omega); simpa using this) (.inl rfl)
      rw [rtrim_cons, this, if_pos ⟨rfl, by simpa using h1 0 (Nat.le_refl _) (by simp)⟩]; rfl
    | succ n =>
      have hr := ih n (by simpa using hn) (fun j hj1 hj => by have := h1 (j + 1) (by omega) (by simp; omega); simpa using this) (by
        rcases Nat.eq_zero_or_pos n with h0 | h0
        · exact .inl h0
        · right
          rcases h2 with h2 | h2
          · cases h2
          · obtain ⟨m, rfl⟩ : ∃ m, n = m + 1 := ⟨n - 1, by omega⟩
            simpa using h2)
      rw [rtrim_cons, hr, List.take_succ_cons, if_neg]
      rintro ⟨e1, e2⟩
      have hn0 : n = 0 := by
        have hl := congrArg List.length e1
        rw [List.length_take, List.length_nil] at hl
        rw [List.length_cons] at hn
        omega
      subst hn0
      rcases h2 with h2 | h2
      · cases h2
      · simp at h2; rw [h2] at e2; cases e2
def joinL (sep : List Int) (l : List (List Int)) : List Int := sep.intercalate l
theorem joinL_nil (sep : List Int) : joinL sep [] = [] := rfl
theorem joinL_one (sep x : List Int) : joinL sep [x] = x := by simp [joinL, List.intercalate]
theorem joinL_cons (sep x y : List Int) (r : List (List Int)) : joinL sep (x :: y :: r) = x ++ (sep ++ joinL sep (y :: r)) := by simp [joinL, List.intercalate]
theorem joinL_snoc (sep : List Int) : ∀ (l : List (List Int)) (x : List Int), l ≠ [] → joinL sep (l ++ [x]) = joinL sep l ++ (sep ++ x)
  | [], _, h => absurd rfl h
  | [y], x, _ => by rw [List.singleton_append, joinL_cons, joinL_one, joinL_one]
  | y :: z :: r, x, _ => by
    have ih := joinL_snoc sep (z :: r) x (by simp)
    rw [List.cons_append, List.cons_append, joinL_cons, ← List.cons_append, ih, joinL_cons]
    simp [List.append_assoc]
theorem bl_join (sep : List UInt8) : ∀ xs : List (List UInt8), bl (Lib.join xs sep) = joinL (bl sep) (xs.map bl)
  | [] => rfl
  | [x] => by rw [Lib.join_one, List.map_cons, List.map_nil, joinL_one]
  | x :: y :: r => by
    have ih := bl_join sep (y :: r)
    rw [List.map_cons, List.map_cons, joinL_cons, ← List.map_cons, ← ih]
    unfold Lib.join
    simp [List.intercalate, bl]
theorem bl_strOfNums {l : List Int} (h : By l) : bl (strOfNums l).data.toList = l := byteL_str h
theorem contains_by (zs : List ByteArray) (x : ByteArray) : Lib.containsS zs x = (zs.map byteL).contains (byteL x) := by
  rw [Bool.eq_iff_iff, Lib.containsS_iff, List.contains_iff_mem, List.mem_map]
  exact ⟨fun h => ⟨x, h, rfl⟩, fun ⟨y, hy, e⟩ => by rw [← byteL_inj e]; exact hy⟩
end Go.Proofs.YtfhbpgickkibmaaDoor
