/- Plain words: what the pieces, the quoted texts and the fields hold; how long they are. -/
import Derived.Test.YtfhbpgickkibmaaDoorPd
namespace Go.Proofs.YtfhbpgickkibmaaDoor
open Go.RowKit

theorem dropWhile_mem (p : Int → Bool) (l : List Int) : ∀ x ∈ l.dropWhile p, x ∈ l := fun _ hx => (List.dropWhile_sublist p).subset hx
theorem ltrim_sub (l : List Int) : (ltrim l).Sublist l := List.dropWhile_sublist _
theorem rtrim_sub (l : List Int) : (rtrim l).Sublist l := by
  unfold rtrim
  have h := (List.dropWhile_sublist isBlank (l := l.reverse)).reverse
  rwa [List.reverse_reverse] at h
theorem trimB_sub (l : List Int) : (trimB l).Sublist l := (rtrim_sub _).trans (ltrim_sub l)
theorem subL_sub (l : List Int) (a b : Nat) : (subL l a b).Sublist l := (List.take_sublist _ _).trans (List.drop_sublist _ _)
theorem By.sub {a l : List Int} (h : By l) (hs : a.Sublist l) : By a := fun x hx => h x (hs.subset hx)
theorem piece_sub (xs : List Int) (a b : Nat) : (pieceOf xs a b).2.Sublist xs := (trimB_sub _).trans (subL_sub xs a b)
theorem uqL_mem : ∀ (l : List Int) (i : Nat) (acc : List Int), (∀ x ∈ (uqL l i acc).1, x ∈ acc ∨ x ∈ l) ∧ (uqL l i acc).1.length ≤ acc.length + l.length
  | [], i, acc => by unfold uqL; exact ⟨(fun x hx => by cases hx), by simp⟩
  | c :: l, i, acc => by
    rw [uqL.eq_def]
    dsimp only
    split
    · exact ⟨fun x hx => .inl hx, by simp⟩
    · split
      · match l with
        | [] => exact ⟨(fun x hx => by cases hx), by simp⟩
        | d :: r2 =>
          dsimp only
          split
          · have h := uqL_mem r2 (i + 2) (acc ++ [d])
            refine ⟨fun x hx => ?_, by have := h.2; simp at this ⊢; omega⟩
            rcases h.1 x hx with h1 | h1
            · rcases List.mem_append.1 h1 with h2 | h2
              · exact .inl h2
              · rw [List.mem_singleton] at h2; subst h2; exact .inr (by simp)
            · exact .inr (by simp [h1])
          · exact ⟨(fun x hx => by cases hx), by simp⟩
      · split
        · exact ⟨(fun x hx => by cases hx), by simp⟩
        · have h := uqL_mem l (i + 1) (acc ++ [c])
          refine ⟨fun x hx => ?_, by have := h.2; simp at this ⊢; omega⟩
          rcases h.1 x hx with h1 | h1
          · rcases List.mem_append.1 h1 with h2 | h2
            · exact .inl h2
            · rw [List.mem_singleton] at h2; subst h2; exact .inr (by simp)
          · exact .inr (by simp [h1])
theorem unq_mem (xs : List Int) (z : Int) : (∀ x ∈ (unq xs z).1, x ∈ xs) ∧ (unq xs z).1.length ≤ xs.length := by
  unfold unq
  split
  · exact ⟨(fun x hx => by cases hx), by simp⟩
  · split
    · exact ⟨(fun x hx => by cases hx), by simp⟩
    · have h := uqL_mem (xs.drop (z.toNat + 1)) (z.toNat + 1) []
      refine ⟨fun x hx => ?_, by have h2 := h.2; have h3 := (List.drop_sublist (z.toNat + 1) xs).length_le; simp only [List.length_nil] at h2; omega⟩
      rcases h.1 x hx with h1 | h1
      · cases h1
      · exact (List.drop_sublist _ _).subset h1
theorem lowC_idem (c : Int) : lowC (lowC c) = lowC c := by
  unfold lowC
  by_cases h : 65 ≤ c ∧ c ≤ 90
  · rw [if_pos h, if_neg (by omega)]
  · rw [if_neg h, if_neg h]
theorem lowS_idem (l : List Int) : lowS (lowS l) = lowS l := by unfold lowS; rw [List.map_map]; exact List.map_congr_left fun c _ => lowC_idem c
/-- What a field's name and value hold. -/
def fldOK (m : Nat) (q : List Int × List Int) : Prop := By q.1 ∧ By q.2 ∧ q.1.length ≤ m ∧ q.2.length ≤ m ∧ lowS q.1 = q.1
theorem fldL_ok {xs : List Int} {q : List Int × List Int} (hx : By xs) (h : fldL xs = some q) : fldOK xs.length q := by
  unfold fldL at h
  have ht : By (lowS (xs.take (skipTo isTok xs 0))) := lowS_by (hx.sub (List.take_sublist _ _))
  have hl : (lowS (xs.take (skipTo isTok xs 0))).length ≤ xs.length := by rw [lowS_len]; exact (List.take_sublist _ _).length_le
  split at h
  · cases h
  · split at h
    · split at h
      · cases h
      · cases h
        exact ⟨ht, fun x hx2 => hx x ((unq_mem _ _).1 x hx2), hl, (unq_mem _ _).2, lowS_idem _⟩
    · split at h
      · cases h
        exact ⟨ht, hx.sub (List.drop_sublist _ _), hl, (List.drop_sublist _ _).length_le, lowS_idem _⟩
      · cases h
theorem splN_ok (xs : List Int) (sep : Int) : ∀ (f i b : Nat) (acc : List (Nat × List Int)), i ≤ xs.length → (∀ p ∈ acc, p.2.Sublist xs) → (∀ p ∈ (splN xs sep f i b acc).1, p.2.Sublist xs) ∧ (splN xs sep f i b acc).1.length ≤ acc.length + (xs.length - i) + 1
  | 0, i, b, acc, _, _ => by unfold splN; exact ⟨(fun p hp => by cases hp), by simp⟩
  | f + 1, i, b, acc, hi, ha => by
    have push : ∀ (a e : Nat), ∀ p ∈ acc ++ [pieceOf xs a e], p.2.Sublist xs := fun a e p hp => by
      rcases List.mem_append.1 hp with h | h
      · exact ha p h
      · rw [List.mem_singleton] at h; subst h; exact piece_sub xs a e
    rw [splN]
    split
    · exact ⟨push _ _, by simp <;> omega⟩
    · rename_i hlt
      split
      · split
        · exact ⟨(fun p hp => by cases hp), by simp⟩
        · rename_i hu
          have hp := unq_pos (xs := xs) (i := i) hi
          have h0 : (unq xs i).2.2 = 0 := by omega
          have h1 := hp.2 h0
          have h := splN_ok xs sep f (unq xs i).2.1 b acc hp.1 ha
          exact ⟨h.1, by have := h.2; omega⟩
      · split
        · split
          · exact ⟨(fun p hp => by cases hp), by simp⟩
          · rename_i hk
            have hge := skip_ge (fun c => c != 62) xs i
            have h := splN_ok xs sep f (skipTo (fun c => c != 62) xs i + 1) b acc (by omega) ha
            exact ⟨h.1, by have := h.2; omega⟩
        · split
          · exact ⟨(fun p hp => by cases hp), by simp⟩
          · split
            · have h := splN_ok xs sep f (i + 1) (i + 1) (acc ++ [pieceOf xs b i]) (by omega) (push _ _)
              exact ⟨h.1, by have := h.2; rw [List.length_append] at this; simp at this ⊢; omega⟩
            · have h := splN_ok xs sep f (i + 1) b acc (by omega) ha
              exact ⟨h.1, by have := h.2; omega⟩
theorem splitL_ok (xs : List Int) (sep : Int) : (∀ p ∈ (splitL xs sep).1, p.2.Sublist xs) ∧ (splitL xs sep).1.length ≤ xs.length + 1 := by
  unfold splitL
  split
  · exact ⟨(fun p hp => by cases hp), by simp⟩
  · have h := splN_ok xs sep (xs.length + 1) 0 0 [] (Nat.zero_le _) (fun p hp => by cases hp)
    exact ⟨h.1, by have := h.2; simpa using this⟩
end Go.Proofs.YtfhbpgickkibmaaDoor
