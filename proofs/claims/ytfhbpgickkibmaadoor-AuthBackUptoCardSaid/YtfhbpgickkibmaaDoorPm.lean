/- Plain law: the fields of a printed text are read back. -/
import Derived.Test.YtfhbpgickkibmaaDoorPl
namespace Go.Proofs.YtfhbpgickkibmaaDoor
open Go.RowKit

theorem skip_pre {p : Int → Bool} {a r : List Int} {c : Int} (h : ∀ x ∈ a, p x = true) (hc : p c = false) : skipTo p (a ++ c :: r) 0 = a.length := by
  unfold skipTo
  rw [List.drop_zero, List.takeWhile_append_of_pos h, List.takeWhile_cons, if_neg (by rw [hc]; decide), List.append_nil, Nat.zero_add]
theorem skip_all {p : Int → Bool} {a : List Int} (h : ∀ x ∈ a, p x = true) : skipTo p a 0 = a.length := by
  unfold skipTo
  have h2 := List.takeWhile_append_of_pos (l₂ := []) h
  rw [List.append_nil, List.takeWhile_nil, List.append_nil] at h2
  rw [List.drop_zero, h2, Nat.zero_add]
theorem skip_at {p : Int → Bool} (a : List Int) (c : Int) (r : List Int) (hc : p c = false) : skipTo p (a ++ c :: r) a.length = a.length :=
  skip_no (by simp) (by rw [getD_app]; exact hc)
theorem tok_blank {c : Int} (h : isTok c = true) : isBlank c = false := by
  cases hb : isBlank c with
  | false => rfl
  | true =>
    unfold isBlank at hb
    rw [Bool.or_eq_true, beq_iff_eq, beq_iff_eq] at hb
    rcases hb with rfl | rfl
    · exact absurd h (by decide)
    · exact absurd h (by decide)
/-- A name: token letters, small ones, at least one. -/
def Name (nm : List Int) : Prop := nm ≠ [] ∧ (∀ c ∈ nm, isTok c = true) ∧ lowS nm = nm
theorem take_pre (a r : List Int) : (a ++ r).take a.length = a := by simp
theorem fldL_nq {nm v : List Int} (hn : Name nm) (hv : clean v = true) : fldL (nq nm v) = some (nm, v) := by
  obtain ⟨h0, h1, h2⟩ := hn
  have hx : nq nm v = nm ++ 61 :: quoteL v := by unfold nq; simp
  have hx2 : nq nm v = (nm ++ [61]) ++ 34 :: (escL v ++ [34]) := by unfold nq quoteL; simp
  have hx3 : nq nm v = (nm ++ [61]) ++ (quoteL v ++ []) := by unfold nq; simp
  have s1 : skipTo isTok (nq nm v) 0 = nm.length := by rw [hx]; exact skip_pre h1 (by decide)
  have s2 : skipTo isBlank (nq nm v) nm.length = nm.length := by rw [hx]; exact skip_at _ _ _ (by decide)
  have s3 : skipTo isBlank (nq nm v) (nm.length + 1) = nm.length + 1 := by
    have h := skip_at (p := isBlank) (nm ++ [61]) 34 (escL v ++ [34]) (by decide)
    rw [← hx2, List.length_append] at h
    exact h
  have g1 : (nq nm v).getD nm.length 0 = 61 := by rw [hx]; exact getD_app _ _ _
  have g2 : (nq nm v).getD (nm.length + 1) 0 = 34 := by
    have h := getD_app (nm ++ [61]) 34 (escL v ++ [34])
    rw [← hx2, List.length_append] at h
    exact h
  have u1 : unq (nq nm v) ((nm.length + 1 : Nat) : Int) = (v, (nq nm v).length, 0) := by
    have h := unq_quote (nm ++ [61]) v [] hv
    rw [← hx3, List.length_append, List.length_singleton] at h
    rw [h]
    unfold nq
    simp
    omega
  have hl : (nq nm v).length = nm.length + 1 + (quoteL v).length := by rw [hx]; simp; omega
  have hq : 0 < (quoteL v).length := by unfold quoteL; simp
  have h00 : nm.length ≠ 0 := fun e => h0 (List.eq_nil_of_length_eq_zero e)
  unfold fldL
  rw [s1, s2, g1, s3, g2, u1, if_neg (by rintro (h | h | h); exact h00 h; omega; exact h rfl), if_pos ⟨by omega, rfl⟩, if_neg (by rintro (h | h); exact h rfl; exact h rfl)]
  rw [hx, take_pre, h2]
theorem fldL_tok {nm tk : List Int} (hn : Name nm) (ht0 : tk ≠ []) (ht : ∀ c ∈ tk, isTok c = true) : fldL (nm ++ 61 :: tk) = some (nm, tk) := by
  obtain ⟨h0, h1, h2⟩ := hn
  obtain ⟨d, r, rfl⟩ : ∃ d r, tk = d :: r := by
    cases tk with
    | nil => exact absurd rfl ht0
    | cons d r => exact ⟨d, r, rfl⟩
  have hd := ht d (by simp)
  have hx2 : nm ++ 61 :: d :: r = (nm ++ [61]) ++ d :: r := by simp
  have s1 : skipTo isTok (nm ++ 61 :: d :: r) 0 = nm.length := skip_pre h1 (by decide)
  have s2 : skipTo isBlank (nm ++ 61 :: d :: r) nm.length = nm.length := skip_at _ _ _ (by decide)
  have s3 : skipTo isBlank (nm ++ 61 :: d :: r) (nm.length + 1) = nm.length + 1 := by
    have h := skip_at (p := isBlank) (nm ++ [61]) d r (tok_blank hd)
    rw [← hx2, List.length_append] at h
    exact h
  have g1 : (nm ++ 61 :: d :: r).getD nm.length 0 = 61 := getD_app _ _ _
  have g2 : (nm ++ 61 :: d :: r).getD (nm.length + 1) 0 = d := by
    have h := getD_app (nm ++ [61]) d r
    rw [← hx2, List.length_append] at h
    exact h
  have h00 : nm.length ≠ 0 := fun e => h0 (List.eq_nil_of_length_eq_zero e)
  have hdr : (nm ++ 61 :: d :: r).drop (nm.length + 1) = d :: r := by
    rw [hx2, show nm.length + 1 = (nm ++ [61]).length by simp, List.drop_left]
  have hd34 : d ≠ 34 := fun e => by rw [e] at hd; exact absurd hd (by decide)
  unfold fldL
  rw [s1, s2, g1, s3, g2, hdr, if_neg (by rintro (h | h | h); exact h00 h; rw [List.length_append, List.length_cons] at h; omega; exact h rfl), if_neg (fun h => hd34 h.2), if_pos (by
    unfold isToken
    rw [skip_all ht]
    simp), take_pre, h2]
theorem addAll_back : ∀ (l : List (List Int × (List Int × List Int))) (acc : List (List Int × List Int)), (∀ x ∈ l, fldL x.1 = some x.2) → ((acc ++ l.map (·.2)).map (·.1)).Nodup → addAll acc (l.map (·.1)) = .ok (acc ++ l.map (·.2))
  | [], acc, _, _ => by simp [addAll]
  | x :: l, acc, h, hn => by
    have h1 := h x (by simp)
    have h2 : acc.any (fun q => q.1 == x.2.1) = false := by
      rw [List.any_eq_false]
      intro q hq
      rw [beq_iff_eq]
      intro e
      rw [List.map_cons, List.map_append, List.map_cons, List.nodup_append] at hn
      exact hn.2.2 q.1 (List.mem_map_of_mem hq) x.2.1 (by simp) e
    rw [List.map_cons, addAll, addF, h1]
    dsimp only
    rw [h2]
    have ih := addAll_back l (acc ++ [x.2]) (fun y hy => h y (by simp [hy])) (by rw [List.append_assoc]; exact hn)
    rw [show (if false = true then (Except.error 7 : Except Int (List (List Int × List Int))) else .ok (acc ++ [x.2])) = .ok (acc ++ [x.2]) from rfl]
    dsimp only
    rw [ih, List.append_assoc]
    rfl
theorem joinL_end : ∀ (ps : List (List Int)) (p : List Int), (∀ q ∈ p :: ps, Tight q) → ∃ c q, joinL [44, 32] (p :: ps) = q ++ [c] ∧ isBlank c = false
  | [], p, h => by rw [joinL_one]; exact (h p (by simp)).2
  | p2 :: ps, p, h => by
    obtain ⟨c, q, h1, h2⟩ := joinL_end ps p2 (fun q hq => h q (List.mem_cons_of_mem _ hq))
    exact ⟨c, p ++ ([44, 32] ++ q), by rw [joinL_cons, h1]; simp, h2⟩
theorem fieldsL_back (l : List (List Int × (List Int × List Int))) (hne : l ≠ []) (h : ∀ x ∈ l, fldL x.1 = some x.2 ∧ Closed x.1 ∧ Tight x.1) (hn : ((l.map (·.2)).map (·.1)).Nodup) : fieldsL (DIG ++ joinL [44, 32] (l.map (·.1))) = .ok (l.map (·.2)) := by
  obtain ⟨x, l', rfl⟩ : ∃ x l', l = x :: l' := by
    cases l with
    | nil => exact absurd rfl hne
    | cons x l' => exact ⟨x, l', rfl⟩
  have hct : ∀ q ∈ x.1 :: l'.map (·.1), Closed q ∧ Tight q := fun q hq => by
    rw [← List.map_cons (f := fun y : List Int × (List Int × List Int) => y.1)] at hq
    obtain ⟨y, hy, rfl⟩ := List.mem_map.1 hq
    exact (h y hy).2
  rw [List.map_cons (f := fun y : List Int × (List Int × List Int) => y.1)]
  obtain ⟨c, q, hj, hc⟩ := joinL_end (l'.map (·.1)) x.1 (fun q hq => (hct q hq).2)
  have ht : trimB (DIG ++ joinL [44, 32] (x.1 :: l'.map (·.1))) = DIG ++ joinL [44, 32] (x.1 :: l'.map (·.1)) :=
    Tight.trim ⟨⟨68, [105, 103, 101, 115, 116, 32] ++ joinL [44, 32] (x.1 :: l'.map (·.1)), rfl, by decide⟩, c, DIG ++ q, by rw [hj, List.append_assoc], hc⟩
  obtain ⟨qs, h1, h2⟩ := splN_join (l'.map (·.1)) x.1 [] ((32 :: joinL [44, 32] (x.1 :: l'.map (·.1))).length + 1) [] hct (Nat.le_refl _)
  rw [List.nil_append, List.length_nil] at h1
  have hs : splitL (32 :: joinL [44, 32] (x.1 :: l'.map (·.1))) 44 = ([] ++ qs, 0, 0) := by
    unfold splitL
    rw [if_neg (by decide)]
    exact h1
  have ha := addAll_back (x :: l') [] (fun y hy => (h y hy).1) (by rw [List.nil_append]; exact hn)
  unfold fieldsL
  rw [ht, show (DIG ++ joinL [44, 32] (x.1 :: l'.map (·.1))).drop 6 = 32 :: joinL [44, 32] (x.1 :: l'.map (·.1)) from rfl, hs]
  rw [if_neg (by
    rintro (h3 | h3 | h3)
    · rw [List.length_append] at h3
      have : DIG.length = 7 := rfl
      omega
    · exact h3 rfl
    · exact absurd h3 (by show ¬ (isBlank 32 = false); decide)), if_neg (fun h3 => h3 rfl), List.nil_append, h2]
  rw [List.map_cons, List.nil_append] at ha
  exact ha
end Go.Proofs.YtfhbpgickkibmaaDoor
