/- Plain: what a parameter list holds. -/
import Derived.Test.YthfonniieaiocaaGreatDoorVc
set_option linter.unusedVariables false
set_option linter.unusedSimpArgs false
namespace Go.Proofs.YthfonniieaiocaaGreatDoor
open Go.RowKit

theorem join_sum (l : List (List Int)) : (joinL [58] l).length + 1 ≤ (l.map (fun p => p.length + 1)).sum + 1 ∧ (l ≠ [] → (joinL [58] l).length + 1 = (l.map (fun p => p.length + 1)).sum) := by
  induction l with
  | nil => exact ⟨by rw [joinL_nil]; simp, fun h => absurd rfl h⟩
  | cons p r ih =>
    cases r with
    | nil => rw [joinL_one]; exact ⟨by simp, fun _ => by simp⟩
    | cons q r =>
      have h := ih.2 (by simp)
      have : (joinL [58] (p :: q :: r)).length + 1 = ((p :: q :: r).map (fun p => p.length + 1)).sum := by
        rw [joinL_cons, List.length_append, List.length_append, List.map_cons, List.sum_cons, ← h, List.length_singleton]
        omega
      exact ⟨by omega, fun _ => this⟩
theorem grpN_le {g : List Int} (h : 1 ≤ g.length) : (grpN g).length ≤ g.length := by
  rw [grpN_eq]
  split
  · simpa using h
  · exact Nat.le_trans (List.dropWhile_sublist _).length_le (by rw [lowS_len]; exact Nat.le_refl _)
theorem sum_mono {l : List (List Int)} {f : List Int → List Int} (h : ∀ p ∈ l, (f p).length ≤ p.length) : ((l.map f).map (fun p => p.length + 1)).sum ≤ (l.map (fun p => p.length + 1)).sum := by
  induction l with
  | nil => exact Nat.le_refl _
  | cons p l ih =>
    have h1 := h p (by simp)
    have h2 := ih fun q hq => h q (List.mem_cons_of_mem _ hq)
    simp only [List.map_cons, List.sum_cons] at h2 ⊢
    omega
theorem side_shrink {s : List Int} {l : List (List Int)} (h : sideL s = some l) : (joinL [58] l).length ≤ s.length := by
  unfold sideL at h
  split at h
  · injection h with h; subst h; rw [joinL_nil]; simp
  · unfold grpL at h
    split at h
    · rename_i h1
      injection h with h
      subst h
      have h2 := sum_mono (l := cutL 58 s) (f := grpN) fun p hp => grpN_le (grpOK_iff.1 (List.all_eq_true.1 h1 p hp)).1.1
      rw [cut_sum] at h2
      have h3 := (join_sum ((cutL 58 s).map grpN)).2 (by
        intro e
        have := cut_sum 58 s
        rw [List.map_eq_nil_iff.1 e] at this
        simp at this)
      omega
    · cases h
theorem host_len {s h : List Int} (hh : hostL s = some h) : h.length ≤ s.length := by
  unfold hostL at hh
  split at hh
  · rename_i hb
    rw [Option.map_eq_some_iff] at hh
    obtain ⟨g, hg, e⟩ := hh
    subst e
    rw [← rsixL_eq] at hg
    have hl : (subL s 1 (s.length - 1)).length = s.length - 2 := by rw [subL_len (by omega)]; omega
    have : g.length ≤ (subL s 1 (s.length - 1)).length := by
      generalize subL s 1 (s.length - 1) = z at hg
      unfold rsixL at hg
      cases hd : dblL z with
      | some p =>
        rw [hd] at hg
        dsimp only at hg
        cases hx : sideL p.1 with
        | none => rw [hx] at hg; cases hg
        | some x =>
          cases hy : sideL p.2 with
          | none => rw [hx, hy] at hg; cases hg
          | some y =>
            rw [hx, hy] at hg
            dsimp only at hg
            split at hg
            · cases hg
            · injection hg with hg
              subst hg
              have h1 := side_shrink hx
              have h2 := side_shrink hy
              have h3 := dbl_len hd
              simp only [List.length_append, List.length_cons, List.length_nil]
              omega
      | none =>
        rw [hd] at hg
        dsimp only at hg
        cases hx : sideL z with
        | none => rw [hx] at hg; cases hg
        | some l =>
          rw [hx] at hg
          dsimp only at hg
          split at hg
          · injection hg with hg
            subst hg
            exact side_shrink hx
          · cases hg
    simp only [List.length_append, List.length_cons, List.length_nil]
    omega
  · split at hh
    · injection hh with hh; subst hh; exact Nat.le_refl _
    · split at hh
      · injection hh with hh; subst hh; rw [lowS_len]; exact Nat.le_refl _
      · cases hh
theorem host_close {xs h : List Int} {a : Nat} (ha : a < xs.length) (h91 : xs.getD a 0 = 91) (hh : hostL (subL xs a (min (untilL xs a [93] + 1) xs.length)) = some h) : untilL xs a [93] + 1 ≤ xs.length ∧ a < untilL xs a [93] + 1 := by
  obtain ⟨u1, u2⟩ := until_le (xs := xs) (a := a) (st := [93]) (by omega)
  refine ⟨?_, by omega⟩
  by_cases hu : untilL xs a [93] + 1 ≤ xs.length
  · exact hu
  exfalso
  have hm : min (untilL xs a [93] + 1) xs.length = xs.length := by omega
  rw [hm] at hh
  have h93 : ∀ c ∈ subL xs a xs.length, c ≠ 93 := fun c hc => by
    have he : untilL xs a [93] = xs.length := by omega
    unfold untilL skipTo at he
    have hl : ((xs.drop a).takeWhile fun c => !([93] : List Int).contains c).length = (xs.drop a).length := by rw [List.length_drop]; omega
    have ht := (List.takeWhile_sublist (fun c => !([93] : List Int).contains c) (l := xs.drop a)).eq_of_length hl
    have ha2 : ((xs.drop a).takeWhile fun c => !([93] : List Int).contains c).all (fun c => !([93] : List Int).contains c) = true := List.all_takeWhile
    rw [ht] at ha2
    have hc2 : c ∈ xs.drop a := by unfold subL at hc; exact List.mem_of_mem_take hc
    have := List.all_eq_true.1 ha2 c hc2
    intro e
    subst e
    simp at this
  have hhd : (subL xs a xs.length).getD 0 0 = 91 := by
    unfold subL
    rw [drop_consI xs ha, h91, List.take_cons (by omega)]
    rfl
  have h91m : (91 : Int) ∈ subL xs a xs.length := by
    rw [← hhd]
    refine getD_mem ?_
    rw [subL_len (Nat.le_refl _)]; omega
  generalize subL xs a xs.length = z at *
  unfold hostL at hh
  split at hh
  · rename_i hb
    exact h93 _ (getD_mem (l := z) (i := z.length - 1) (by omega)) hb.2.2
  · split at hh
    · rename_i hn
      exact (hostC_range (numbers_chars hn _ h91m)).2.2.2.2.1 rfl
    · split at hh
      · rename_i hn
        exact (hostC_range (named_chars hn _ h91m)).2.2.2.2.1 rfl
      · cases hh
theorem listedH_ok {X : List Int} {a a' : Nat} {p : Pm} (hX : By X) (ha : a ≤ X.length) (h : listedH X a = .ok (p, a')) : By p.n ∧ By p.v ∧ p.n.length ≤ X.length ∧ p.v.length ≤ X.length ∧ a < a' ∧ a' ≤ X.length := by
  obtain ⟨e1, he1⟩ : ∃ k, skipTo isTok X a = k := ⟨_, rfl⟩
  obtain ⟨a1, ha1⟩ : ∃ k, skipTo isBlank X e1 = k := ⟨_, rfl⟩
  obtain ⟨a2, ha2⟩ : ∃ k, skipTo isBlank X (a1 + 1) = k := ⟨_, rfl⟩
  obtain ⟨e3, he3⟩ : ∃ k, skipTo isTok X a2 = k := ⟨_, rfl⟩
  rw [listedH_eq he1 ha1 ha2, he3] at h
  have ae1 : a ≤ e1 := by rw [← he1]; exact skip_ge _ _ _
  have e1s : e1 ≤ X.length := by rw [← he1]; exact skip_le ha
  have e1a1 : e1 ≤ a1 := by rw [← ha1]; exact skip_ge _ _ _
  have a1s : a1 ≤ X.length := by rw [← ha1]; exact skip_le e1s
  have nB : By (lowS (subL X a e1)) := lowS_by (hX.sub (subL_sub X a e1))
  have nL : (lowS (subL X a e1)).length ≤ X.length := by rw [lowS_len, subL_len e1s]; omega
  split at h
  · cases h
  rename_i h0
  split at h
  · injection h with h
    injection h with h1 h2
    subst h1; subst h2
    exact ⟨nB, fun x hx => (by cases hx), nL, Nat.zero_le _, by omega, a1s⟩
  rename_i h1
  have h1' : a1 < X.length := (atL_lt h1).1
  have a2g : a1 + 1 ≤ a2 := by rw [← ha2]; exact skip_ge _ _ _
  have a2s : a2 ≤ X.length := by rw [← ha2]; exact skip_le h1'
  split at h
  · split at h
    · cases h
    · rename_i h3
      injection h with h
      injection h with h4 h5
      subst h4; subst h5
      obtain ⟨q1, q2⟩ := unq_pos a2s
      have q3 := q2 (Classical.not_not.1 h3)
      obtain ⟨q4, q5⟩ := unq_mem X (a2 : Nat)
      exact ⟨nB, fun x hx => hX x (q4 x hx), nL, q5, by omega, q1⟩
  · split at h
    · rename_i h91
      cases hh : hostL (subL X a2 (min (untilL X a2 [93] + 1) X.length)) with
      | none => rw [hh] at h; cases h
      | some hv =>
        rw [hh] at h
        dsimp only at h
        injection h with h
        injection h with h4 h5
        subst h4; subst h5
        have hat := atL_lt (xs := X) (a := a2) (c := 91) (by rw [h91]; decide)
        obtain ⟨c1, c2⟩ := host_close hat.1 hat.2 hh
        have hl := host_len hh
        have hl2 : hv.length ≤ X.length := Nat.le_trans hl (subL_sub _ _ _).length_le
        exact ⟨nB, host_by hh (hX.sub (subL_sub _ _ _)), nL, hl2, by omega, c1⟩
    · split at h
      · cases h
      · injection h with h
        injection h with h4 h5
        subst h4; subst h5
        have e3g : a2 ≤ e3 := by rw [← he3]; exact skip_ge _ _ _
        have e3s : e3 ≤ X.length := by rw [← he3]; exact skip_le a2s
        exact ⟨nB, hX.sub (subL_sub X a2 e3), nL, by rw [subL_len e3s]; omega, by omega, e3s⟩
theorem listedH_err {X : List Int} {a z : Nat} {k : Int} (ha : a ≤ X.length) (h : listedH X a = .error (z, k)) : k ≠ 0 ∧ z ≤ X.length := by
  rw [listedH_eq rfl rfl rfl] at h
  have e1s : skipTo isTok X a ≤ X.length := skip_le ha
  have a1s : skipTo isBlank X (skipTo isTok X a) ≤ X.length := skip_le e1s
  split at h
  · injection h with h; injection h with h1 h2; subst h2; subst h1; exact ⟨by decide, e1s⟩
  split at h
  · cases h
  rename_i h61
  have a2s : skipTo isBlank X (skipTo isBlank X (skipTo isTok X a) + 1) ≤ X.length := skip_le (atL_lt h61).1
  split at h
  · split at h
    · rename_i h3
      injection h with h; injection h with h1 h2; subst h2; subst h1; exact ⟨h3, (unq_pos a2s).1⟩
    · cases h
  · split at h
    · cases hh : hostL (subL X (skipTo isBlank X (skipTo isBlank X (skipTo isTok X a) + 1)) (min (untilL X (skipTo isBlank X (skipTo isBlank X (skipTo isTok X a) + 1)) [93] + 1) X.length)) with
      | none => rw [hh] at h; dsimp only at h; injection h with h; injection h with h1 h2; subst h2; subst h1; exact ⟨by decide, a2s⟩
      | some hv => rw [hh] at h; cases h
    · split at h
      · injection h with h; injection h with h1 h2; subst h2; subst h1; exact ⟨by decide, a2s⟩
      · cases h
theorem pars_ok {X : List Int} (hX : By X) : ∀ (f a : Nat) (l : List Pm), a ≤ X.length → l.length ≤ 16 → (∀ p ∈ l, By p.n ∧ By p.v) → match parsN X f a l with
    | .ok m => m.length ≤ 16 ∧ ∀ p ∈ m, By p.n ∧ By p.v
    | .error e => e.1 ≤ X.length ∧ e.2 ≠ 0
  | 0, a, l, _, hl, hb => ⟨hl, hb⟩
  | f + 1, a, l, ha, hl, hb => by
    rw [parsN_eq rfl rfl]
    have a0s : skipTo isBlank X a ≤ X.length := skip_le ha
    by_cases h1 : X.length ≤ skipTo isBlank X a
    · rw [if_pos h1]; exact ⟨hl, hb⟩
    rw [if_neg h1]
    by_cases h2 : X.getD (skipTo isBlank X a) 0 ≠ 59
    · rw [if_pos h2]; exact ⟨a0s, show (5 : Int) ≠ 0 by decide⟩
    rw [if_neg h2]
    have a1s : skipTo isBlank X (skipTo isBlank X a + 1) ≤ X.length := skip_le (by omega)
    cases hr : listedH X (skipTo isBlank X (skipTo isBlank X a + 1)) with
    | error e => exact ⟨(listedH_err a1s hr).2, (listedH_err a1s hr).1⟩
    | ok q =>
      obtain ⟨p, a2⟩ := q
      dsimp only
      obtain ⟨b1, b2, _, _, _, b6⟩ := listedH_ok hX a1s hr
      by_cases hroom : roomL l p.n ≠ 0
      · rw [if_pos hroom]; exact ⟨a1s, hroom⟩
      · rw [if_neg hroom]
        have h16 : l.length < 16 := by
          unfold roomL at hroom
          split at hroom
          · simp at hroom
          · split at hroom
            · simp at hroom
            · omega
        refine pars_ok hX f a2 (l ++ [p]) b6 (by simp; omega) fun q hq => ?_
        rcases List.mem_append.1 hq with hq | hq
        · exact hb q hq
        · rw [List.mem_singleton] at hq; subst hq; exact ⟨b1, b2⟩
end Go.Proofs.YthfonniieaiocaaGreatDoor
