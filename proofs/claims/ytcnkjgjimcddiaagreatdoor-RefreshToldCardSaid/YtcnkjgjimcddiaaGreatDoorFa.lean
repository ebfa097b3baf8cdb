/- Plain law of RefreshTold: an interval that is printed is read back. -/
import Derived.Test.YtcnkjgjimcddiaaGreatDoorAp
import Derived.Lib.ItoaLen
namespace Go.Proofs.YtcnkjgjimcddiaaGreatDoor
open Go.RowKit

/-- A number's decimal digits. -/
def decL (n : Int) : List Int := bl (Lib.itoa n)
theorem decL_by (n : Int) : By (decL n) := bl_by _
theorem dd_small {n : Nat} (h : n < 10) : decL (n : Int) = [48 + (n : Int)] := by
  unfold decL
  rw [Lib.itoa_nonneg, Lib.decDigits, dif_pos h]
  unfold bl
  simp
  omega
theorem dd_big {n : Nat} (h : ¬ n < 10) : decL (n : Int) = decL ((n / 10 : Nat) : Int) ++ [48 + ((n % 10 : Nat) : Int)] := by
  unfold decL
  rw [Lib.itoa_nonneg, Lib.itoa_nonneg, Lib.decDigits, dif_neg h]
  unfold bl
  rw [List.map_append]
  simp
  omega
theorem dec_all : ∀ n : Nat, (decL n).all isDig = true ∧ valL (decL n) = n ∧ 1 ≤ (decL n).length := by
  intro n
  induction n using Nat.strongRecOn with
  | _ n ih =>
  by_cases h : n < 10
  · rw [dd_small h]
    refine ⟨?_, ?_, by simp⟩
    · simp [isDig]; omega
    · simp [valL]; omega
  · obtain ⟨h1, h2, h3⟩ := ih (n / 10) (by omega)
    rw [dd_big h]
    refine ⟨?_, ?_, by simp⟩
    · rw [List.all_append, h1]
      simp [isDig]; omega
    · rw [valL_snoc, h2]
      omega
theorem dec_len (n : Nat) : ∀ k : Nat, n < 10 ^ (k + 1) → (decL n).length ≤ k + 1 := by
  intro k
  induction k generalizing n with
  | zero => intro h; rw [dd_small (by simpa using h)]; simp
  | succ k ih =>
    intro h
    by_cases h2 : n < 10
    · rw [dd_small h2]; simp
    · rw [dd_big h2, List.length_append]
      have := ih (n / 10) ((Nat.div_lt_iff_lt_mul (by decide)).2 (by rwa [Nat.pow_succ] at h))
      rw [List.length_singleton]
      omega
theorem dig_tok {c : Int} (h : isDig c = true) : isTok c = true := by
  unfold isDig at h
  unfold isTok
  simp at h ⊢
  omega
theorem dig_blank {c : Int} (h : isDig c = true) : isBlank c = false := by
  unfold isDig at h
  unfold isBlank
  simp at h ⊢
  omega
theorem skip_digs (D S : List Int) (hD : D.all isDig = true) (hS : isTok (S.getD 0 0) = false) : skipTo isTok (D ++ S) 0 = D.length := by
  unfold skipTo
  rw [List.drop_zero, Nat.zero_add]
  induction D with
  | nil =>
    cases S with
    | nil => rfl
    | cons c S =>
      rw [List.nil_append, List.takeWhile_cons, if_neg (by simpa using hS)]
  | cons c D ih =>
    rw [List.all_cons, Bool.and_eq_true] at hD
    rw [List.cons_append, List.takeWhile_cons, if_pos (dig_tok hD.1), List.length_cons, List.length_cons, ih hD.2]
theorem trim_ends {a b : Int} (m : List Int) (ha : isBlank a = false) (hb : isBlank b = false) : trimB (a :: (m ++ [b])) = a :: (m ++ [b]) := by
  unfold trimB ltrim rtrim
  rw [List.dropWhile_cons, if_neg (by rw [ha]; decide)]
  rw [← List.cons_append, List.reverse_append, List.reverse_singleton, List.singleton_append, List.dropWhile_cons, if_neg (by rw [hb]; decide), ← List.singleton_append, List.reverse_append, List.reverse_reverse, List.reverse_singleton]
theorem trim_digs (D : List Int) (hD : D.all isDig = true) : trimB D = D := by
  match D, hD with
  | [], _ => rfl
  | [c], h =>
    have : isBlank c = false := dig_blank (by simpa using h)
    unfold trimB ltrim rtrim
    rw [List.dropWhile_cons, if_neg (by rw [this]; decide), List.reverse_singleton, List.dropWhile_cons, if_neg (by rw [this]; decide)]
    rfl
  | c :: d :: D, h =>
    rw [List.all_cons, Bool.and_eq_true] at h
    have e : d :: D = (d :: D).dropLast ++ [(d :: D).getLast (by simp)] := (List.dropLast_concat_getLast (by simp)).symm
    rw [e]
    exact trim_ends _ (dig_blank h.1) (dig_blank (List.all_eq_true.1 h.2 _ (List.getLast_mem _)))
def TAILC : List Int := [59, 114, 101, 102, 114, 101, 115, 104, 101, 114, 61, 117, 97, 99]
def TAILS : List Int := [59, 114, 101, 102, 114, 101, 115, 104, 101, 114, 61, 117, 97, 115]
def TAIL (c : Bool) : List Int := if c = true then TAILC else TAILS
def RPM (c : Bool) : List Pm := [⟨[114, 101, 102, 114, 101, 115, 104, 101, 114], if c = true then [117, 97, 99] else [117, 97, 115], true⟩]
theorem tail_params (c : Bool) : paramsL (TAIL c) = .ok (RPM c) := by cases c <;> kernel_rfl
theorem item_dec (D : List Int) (c : Bool) (hD : D.all isDig = true) (h1 : 1 ≤ D.length) : itemL (D ++ TAIL c) = .ok (D, RPM c) := by
  have ht : trimB (D ++ TAIL c) = D ++ TAIL c := by
    match D, hD, h1 with
    | d :: D, hD, _ =>
      rw [List.all_cons, Bool.and_eq_true] at hD
      obtain ⟨m, z, hz, hm⟩ : ∃ m z, isBlank z = false ∧ TAIL c = m ++ [z] := by
        cases c
        · exact ⟨[59, 114, 101, 102, 114, 101, 115, 104, 101, 114, 61, 117, 97], 115, rfl, rfl⟩
        · exact ⟨[59, 114, 101, 102, 114, 101, 115, 104, 101, 114, 61, 117, 97], 99, rfl, rfl⟩
      rw [hm, ← List.append_assoc, List.cons_append, List.cons_append]
      exact trim_ends _ (dig_blank hD.1) hz
  have hs : skipTo isTok (D ++ TAIL c) 0 = D.length := skip_digs D _ hD (by cases c <;> rfl)
  have hg : ((D ++ TAIL c).getD D.length 0 == 47) = false := by
    rw [List.getD_eq_getElem?_getD, List.getElem?_append_right (Nat.le_refl _), Nat.sub_self]
    cases c <;> rfl
  unfold itemL
  simp only [ht, hs, hg, Bool.and_false, Bool.false_eq_true, false_and, if_false]
  rw [if_neg (by omega), List.drop_left, tail_params]
  simp
theorem found_dec (n : Nat) (c : Bool) (hn : n < 100000) : foundV (decL n ++ TAIL c) = ⟨true, n, RPM c, 0⟩ := by
  obtain ⟨h1, h2, h3⟩ := dec_all n
  unfold foundV
  rw [item_dec _ c h1 h3]
  dsimp only
  rw [trim_digs _ h1, decnL_ok h3 (by have := dec_len n 4 (by omega); omega) h1 (by rw [h2]; omega), h2]
end Go.Proofs.YtcnkjgjimcddiaaGreatDoor
