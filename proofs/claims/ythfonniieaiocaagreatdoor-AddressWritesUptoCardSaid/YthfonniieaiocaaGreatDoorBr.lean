/- Plain laws: an address text that is written is read back; what is read is in normal form. And what stands behind it. -/
import Derived.Test.YthfonniieaiocaaGreatDoorBp
set_option linter.unusedVariables false
set_option linter.unusedSimpArgs false
namespace Go.Proofs.YthfonniieaiocaaGreatDoor
open Go.RowKit

structure UriBy (u : Uri) : Prop where
  sc : By u.sc
  us : By u.us
  ho : By u.ho
  ps : PmBy u.ps
  hs : PmBy u.hs
structure UriN (u : Uri) : Prop where
  us : By u.us
  ps : LOK 1 u.ps
  pa : Asc u.ps
  hs : LOK 2 u.hs
  ha : Asc u.hs
  k : ((u.sc = SIPT ∨ u.sc = SIPST) ∧ hostL u.ho = some u.ho ∧ By u.ho ∧ 0 ≤ u.po ∧ u.po ≤ 65535 ∧ clean u.us = true) ∨ (u.sc = TELT ∧ u.ho = [] ∧ u.po = 0 ∧ u.hs = [] ∧ dialedL u.us = true)
theorem norm_ok {u n : Uri} (hb : UriBy u) (h : normL u = some n) : UriN n := by
  unfold normL at h
  dsimp only at h
  split at h
  · rename_i ps hs h1 h2
    obtain ⟨p1, p2⟩ := fldsL_ok hb.ps h1
    obtain ⟨q1, q2⟩ := fldsL_ok hb.hs h2
    split at h
    · rename_i hsc
      split at h
      · rename_i ho hh
        split at h
        · rename_i hp
          injection h with h
          subst h
          exact ⟨hb.us, p1, p2, q1, q2, .inl ⟨hsc, host_idem hh, host_by hh hb.ho, hp⟩⟩
        · cases h
      · cases h
    · split at h
      · rename_i hsc
        split at h
        · rename_i hp
          injection h with h
          subst h
          have h0 : hs = [] := by
            have := (fldsL_iff hb.hs).1 h2
            rw [hp.2.2.1] at this
            exact this.2
          exact ⟨hb.us, p1, p2, q1, q2, .inr ⟨hsc, rfl, rfl, h0, hp.2.2.2⟩⟩
        · cases h
      · cases h
  · cases h
def Behind (r : List Int) : Prop := r = [] ∨ r.getD 0 0 = 58 ∨ r.getD 0 0 = 59 ∨ r.getD 0 0 = 63
theorem tel_read (sg : Bool) : ∀ (d p acc : List Int) (f : Nat), d.all (telC sg) = true → d.length + 1 ≤ f → telN (p ++ d) sg f p.length acc = .ok (acc ++ d)
  | d, p, acc, 0, _, hf => absurd hf (by omega)
  | [], p, acc, f + 1, _, _ => by
    unfold telN
    rw [if_pos (by simp)]; simp
  | c :: d, p, acc, f + 1, hd, hf => by
    rw [List.all_cons, Bool.and_eq_true] at hd
    unfold telN
    rw [if_neg (by simp), getD_mid, if_pos hd.1]
    have ih := tel_read sg d (p ++ [c]) (acc ++ [c]) f hd.2 (by simpa using hf)
    rw [List.append_assoc, List.length_append, List.length_singleton, List.append_assoc] at ih
    exact ih
theorem telC_range {sg : Bool} {c : Int} (h : telC sg c = true) : c ≠ 59 ∧ c ≠ 64 ∧ 33 ≤ c ∧ c ≤ 57 ∧ c ≠ 43 ∧ c ≠ 60 ∧ c ≠ 62 ∧ c ≠ 37 := by
  unfold telC at h
  rw [Bool.or_eq_true] at h
  rcases h with h | h
  · unfold isDig at h; simp at h; omega
  · simp at h; omega
theorem dialed_is {us : List Int} (h : dialedL us = true) : ∃ (sg : Bool) (d : List Int), us = (if sg = true then [43] else []) ++ d ∧ d ≠ [] ∧ d.length ≤ 30 ∧ d.all (telC sg) = true := by
  unfold dialedL at h
  dsimp only at h
  generalize hsg : decide (us.head? = some 43) = sg at h
  have h2 : ∀ d : List Int, ((decide (d ≠ []) && decide (d.length ≤ 30)) && d.all (telC sg)) = true → d ≠ [] ∧ d.length ≤ 30 ∧ d.all (telC sg) = true := fun d h => by
    rw [Bool.and_eq_true, Bool.and_eq_true, decide_eq_true_eq, decide_eq_true_eq] at h
    exact ⟨h.1.1, h.1.2, h.2⟩
  cases sg with
  | true =>
    have hs := of_decide_eq_true hsg
    cases us with
    | nil => cases hs
    | cons c us =>
      injection hs with hs
      subst hs
      exact ⟨true, us, rfl, h2 us h⟩
  | false => exact ⟨false, us, rfl, h2 us h⟩
theorem phone_read {us : List Int} (h : dialedL us = true) (p r : List Int) (hr : r = [] ∨ r.getD 0 0 = 59) : phoneL (p ++ (us ++ r)) p.length = .ok (us, p.length + us.length) := by
  obtain ⟨sg, d, rfl, h1, h2, h3⟩ := dialed_is h
  have hc : ∀ c ∈ d, telC sg c = true := List.all_eq_true.1 h3
  have e0 : untilL (p ++ (((if sg = true then [43] else []) ++ d) ++ r)) p.length [59] = p.length + ((if sg = true then [43] else []) ++ d).length := by
    refine until_seg (fun c hcm => ?_) ?_
    · rw [Bool.eq_false_iff]; intro hm
      rw [List.contains_iff_mem, List.mem_singleton] at hm
      subst hm
      rcases List.mem_append.1 hcm with h | h
      · cases sg <;> simp at h
      · exact (telC_range (hc _ h)).1 rfl
    · rcases hr with h | h
      · exact .inl h
      · right; rw [h]; rfl
  unfold phoneL
  dsimp only
  rw [e0, take_seg]
  cases sg with
  | true =>
    simp only [if_true]
    have e1 : atL (p ++ ([43] ++ d ++ r)) p.length 43 = true := by rw [List.append_assoc, List.singleton_append, atL_seg]; rfl
    rw [e1]
    simp only [if_true]
    have e2 := tel_read true d (p ++ [43]) [] ((p ++ ([43] ++ d ++ r)).length + 1) h3 (by simp; omega)
    have l43 : (p ++ [43]).length = p.length + 1 := by simp
    rw [List.append_assoc, l43, List.nil_append] at e2
    rw [e2]
    dsimp only
    rw [if_neg h1, if_neg (by omega)]
  | false =>
    simp only [Bool.false_eq_true, if_false, List.nil_append]
    have e1 : atL (p ++ (d ++ r)) p.length 43 = false := by
      cases d with
      | nil => exact absurd rfl h1
      | cons c d =>
        rw [List.cons_append, atL_seg]
        have := telC_range (hc c (by simp))
        simp; omega
    rw [e1]
    simp only [Bool.false_eq_true, if_false]
    have e2 := tel_read false d p [] ((p ++ (d ++ r)).length + 1) h3 (by simp; omega)
    rw [List.nil_append] at e2
    rw [e2]
    dsimp only
    rw [if_neg h1, if_neg (by omega)]
    simp

theorem skip_stop {p : Int → Bool} {xs : List Int} {i : Nat} (h : skipTo p xs i < xs.length) : p (xs.getD (skipTo p xs i) 0) = false := by
  have e : xs.drop i = (xs.drop i).takeWhile p ++ (xs.drop i).dropWhile p := (List.takeWhile_append_dropWhile).symm
  unfold skipTo at h ⊢
  have hg : xs.getD (i + ((xs.drop i).takeWhile p).length) 0 = ((xs.drop i).dropWhile p).getD 0 0 := by
    rw [List.getD_eq_getElem?_getD, ← List.getElem?_drop, List.getD_eq_getElem?_getD]
    conv => lhs; rw [e]
    rw [List.getElem?_append_right (by rw [← e]; exact Nat.le_refl _), ← e, Nat.sub_self]
  rw [hg]
  cases hd : (xs.drop i).dropWhile p with
  | nil =>
    rw [hd, List.append_nil] at e
    have := congrArg List.length e
    rw [List.length_drop] at this
    omega
  | cons c r =>
    have := List.head?_dropWhile_not p (xs.drop i)
    rw [hd] at this
    simpa using this
theorem user_ok {xs : List Int} {a : Nat} (hx : By xs) (ha : a ≤ xs.length) : match userL xs a with
    | .ok r => By r.1 ∧ clean r.1 = true ∧ r.2 ≤ xs.length
    | .error e => e.1 ≤ xs.length ∧ e.2 ≠ 0 := by
  obtain ⟨u1, u2⟩ := until_le (st := [64]) ha
  unfold userL
  dsimp only
  generalize untilL xs a [64] = k at *
  by_cases h : xs.length ≤ k
  · rw [if_pos h]; exact ⟨(fun x hx => by cases hx), rfl, ha⟩
  · rw [if_neg h]
    cases hw : wrongL (xs.take k) 0 a with
    | some i =>
      have := wrong_le (by omega) hw
      exact ⟨by dsimp only; omega, by dsimp only; split <;> decide⟩
    | none =>
      dsimp only
      by_cases hk : k = a
      · rw [if_pos hk]; exact ⟨u2, by simp⟩
      · rw [if_neg hk]
        rw [wrong_sub u1 u2, Option.map_eq_none_iff] at hw
        obtain ⟨c1, c2, _, _⟩ := contL_ok (hx.sub (subL_sub xs a k)) hw
        exact ⟨c1, c2, by dsimp only; omega⟩
theorem hostEnd_le {xs : List Int} {a : Nat} (ha : a ≤ xs.length) : a ≤ hostEnd xs a ∧ hostEnd xs a ≤ xs.length := by
  unfold hostEnd
  split
  · have h1 := until_le (st := [93]) ha
    omega
  · exact until_le ha
theorem decn_val (l : List Int) : (decnL l).2 = 0 ∨ (decnL l).2 = 5 ∨ (decnL l).2 = 3 := by
  unfold decnL
  split
  · exact .inr (.inl rfl)
  · split
    · exact .inr (.inr rfl)
    · exact .inl rfl
theorem port_ok {xs : List Int} {a : Nat} (ha : a ≤ xs.length) : match portL xs a with
    | .ok r => 0 ≤ r.1 ∧ r.1 ≤ 65535 ∧ a ≤ r.2 ∧ r.2 ≤ xs.length
    | .error e => e.1 ≤ xs.length ∧ e.2 ≠ 0 := by
  unfold portL
  by_cases h : atL xs a 58 = true
  · rw [if_pos h]
    have h1 := (atL_lt (by rw [h]; decide)).1
    obtain ⟨u1, u2⟩ := until_le (st := [59, 63]) (show a + 1 ≤ xs.length by omega)
    dsimp only
    generalize untilL xs (a + 1) [59, 63] = k at *
    generalize decnL (subL xs (a + 1) k) = p at *
    by_cases h2 : p.2 ≠ 0
    · rw [if_pos h2]; exact ⟨h1, h2⟩
    · rw [if_neg h2]
      by_cases h3 : p.1 < 1 ∨ 65535 < p.1
      · rw [if_pos h3]; exact ⟨h1, by simp⟩
      · rw [if_neg h3]
        have e1 : ¬ p.1 < 1 := fun h => h3 (.inl h)
        have e2 : ¬ 65535 < p.1 := fun h => h3 (.inr h)
        exact ⟨by dsimp only; omega, by dsimp only; omega, by dsimp only; omega, u2⟩
  · rw [if_neg h]
    by_cases h2 : a < xs.length ∧ atL xs a 59 = false ∧ atL xs a 63 = false
    · rw [if_pos h2]; exact ⟨ha, by simp⟩
    · rw [if_neg h2]; exact ⟨by simp, by simp, Nat.le_refl _, ha⟩
theorem tel_ok {xs : List Int} {sg : Bool} : ∀ (f i : Nat) (acc : List Int), acc.all (telC sg) = true → match telN xs sg f i acc with
    | .ok d => d.all (telC sg) = true
    | .error j => j ≤ xs.length
  | 0, i, acc, h => by unfold telN; exact h
  | f + 1, i, acc, h => by
    unfold telN
    by_cases h1 : xs.length ≤ i
    · rw [if_pos h1]; exact h
    · rw [if_neg h1]
      by_cases h2 : telC sg (xs.getD i 0) = true
      · rw [if_pos h2]
        exact tel_ok f (i + 1) _ (by rw [List.all_append, h]; simp; exact h2)
      · rw [if_neg h2]
        by_cases h3 : telS (xs.getD i 0) = true
        · rw [if_pos h3]; exact tel_ok f (i + 1) _ h
        · rw [if_neg h3]; show i ≤ xs.length; omega
theorem telC_by {sg : Bool} {d : List Int} (h : d.all (telC sg) = true) : By d := fun x hx => by
  have := telC_range (List.all_eq_true.1 h x hx); omega
theorem phone_ok {xs : List Int} {a : Nat} (ha : a ≤ xs.length) : match phoneL xs a with
    | .ok r => By r.1 ∧ dialedL r.1 = true ∧ r.2 ≤ xs.length
    | .error e => e.1 ≤ xs.length ∧ e.2 ≠ 0 := by
  obtain ⟨u1, u2⟩ := until_le (st := [59]) ha
  unfold phoneL
  dsimp only
  generalize untilL xs a [59] = k at *
  generalize atL xs a 43 = sg at *
  have ht := tel_ok (xs := xs.take k) (sg := sg) (xs.length + 1) (if sg = true then a + 1 else a) [] rfl
  cases hd : telN (xs.take k) sg (xs.length + 1) (if sg = true then a + 1 else a) [] with
  | error j =>
    rw [hd] at ht
    have ht2 : j ≤ (xs.take k).length := ht
    rw [List.length_take] at ht2
    exact ⟨by dsimp only; omega, by simp⟩
  | ok d =>
    rw [hd] at ht
    have ht2 : d.all (telC sg) = true := ht
    dsimp only
    by_cases h0 : d = []
    · rw [if_pos h0]; exact ⟨ha, by simp⟩
    · rw [if_neg h0]
      by_cases h3 : 30 < d.length
      · rw [if_pos h3]; exact ⟨ha, by simp⟩
      · rw [if_neg h3]
        refine ⟨?_, ?_, u2⟩
        · intro x hx
          rcases List.mem_append.1 hx with h | h
          · cases sg <;> simp at h
            omega
          · exact telC_by ht2 x h
        · unfold dialedL
          dsimp only
          have e : decide (((if sg = true then [43] else []) ++ d).head? = some 43) = sg := by
            cases sg with
            | true => rfl
            | false =>
              cases d with
              | nil => exact absurd rfl h0
              | cons c d =>
                have := telC_range (List.all_eq_true.1 ht2 c (by simp))
                simp; omega
          rw [e]
          have e2 : (if sg = true then ((if sg = true then [43] else []) ++ d).drop 1 else (if sg = true then [43] else []) ++ d) = d := by cases sg <;> rfl
          rw [e2, ht2, decide_eq_true h0, decide_eq_true (show d.length ≤ 30 by omega)]; rfl
theorem LOK.nil (k : Int) : LOK k [] := ⟨(fun p hp => by cases hp), List.nodup_nil, by decide⟩
theorem tail_ok {xs stops : List Int} {sc us ho : List Int} {po : Int} {a : Nat} (hx : By xs) (ha : a ≤ xs.length) : match tailL xs stops sc us ho po a with
    | .ok u => u.sc = sc ∧ u.us = us ∧ u.ho = ho ∧ u.po = po ∧ LOK 1 u.ps ∧ Asc u.ps ∧ LOK 2 u.hs ∧ Asc u.hs
    | .error e => e.1 ≤ xs.length ∧ e.2 ≠ 0 := by
  have h1 := ps_ok (stops := stops) hx (xs.length + 1) a [] ha (LOK.nil 1)
  unfold tailL
  cases hp : psN xs stops (xs.length + 1) a [] with
  | error e => rw [hp] at h1; exact h1
  | ok r =>
    rw [hp] at h1
    obtain ⟨ps, b⟩ := r
    obtain ⟨h2, h3⟩ := h1
    dsimp only at h2 h3 ⊢
    have h4 := hs_ok hx (xs.length + 1) b [] h3 (LOK.nil 2)
    cases hh : hsN xs (xs.length + 1) b [] with
    | error e => rw [hh] at h4; exact h4
    | ok hs =>
      rw [hh] at h4
      exact ⟨rfl, rfl, rfl, rfl, h2.sort, sort_asc _, LOK.sort h4, sort_asc _⟩
theorem until_stop {xs : List Int} {a : Nat} {st : List Int} (h : untilL xs a st < xs.length) : st.contains (xs.getD (untilL xs a st) 0) = true := by
  have : (!st.contains (xs.getD (untilL xs a st) 0)) = false := skip_stop h
  rw [Bool.not_eq_false'] at this
  exact this
theorem ps_end {xs : List Int} : ∀ (f a : Nat) (l : List Pm), a ≤ xs.length → xs.length + 1 ≤ f + a → (a = xs.length ∨ atL xs a 59 = true) → ∀ r, psN xs [59] f a l = .ok r → r.2 = xs.length
  | 0, a, l, ha, hf, _, _, _ => by omega
  | f + 1, a, l, ha, hf, h0, r, hr => by
    unfold psN at hr
    by_cases h : atL xs a 59 = false
    · rw [if_pos h] at hr
      injection hr with hr
      subst hr
      rcases h0 with h0 | h0
      · exact h0
      · rw [h] at h0; cases h0
    · rw [if_neg h] at hr
      have h1 := (atL_lt h).1
      obtain ⟨u1, u2⟩ := until_le (st := [59]) (show a + 1 ≤ xs.length by omega)
      split at hr
      · cases hr
      · refine ps_end f _ _ u2 (by omega) ?_ r hr
        by_cases hk : untilL xs (a + 1) [59] = xs.length
        · exact .inl hk
        · right
          have hlt : untilL xs (a + 1) [59] < xs.length := by omega
          have := until_stop hlt
          rw [List.contains_iff_mem, List.mem_singleton] at this
          unfold atL
          rw [decide_eq_true hlt, this]; rfl
theorem uri_ok {xs : List Int} (hx : By xs) : match uriL xs with
    | .ok u => UriN u
    | .error e => e.1 ≤ xs.length ∧ e.2 ≠ 0 := by
  unfold uriL
  by_cases h0 : 1024 < xs.length
  · rw [if_pos h0]; exact ⟨by dsimp only; omega, by simp⟩
  rw [if_neg h0]
  obtain ⟨u1, u2⟩ := until_le (xs := xs) (a := 0) (st := [58]) (Nat.zero_le _)
  dsimp only
  generalize hk : untilL xs 0 [58] = k at *
  by_cases h1 : xs.length ≤ k
  · rw [if_pos h1]; exact ⟨Nat.le_refl _, by simp⟩
  rw [if_neg h1]
  by_cases h2 : lowS (xs.take k) = SIPT ∨ lowS (xs.take k) = SIPST
  · rw [if_pos h2]
    have p1 := user_ok hx (show k + 1 ≤ xs.length by omega)
    unfold placeL
    cases hu : userL xs (k + 1) with
    | error e => rw [hu] at p1; exact p1
    | ok r =>
      obtain ⟨us, b⟩ := r
      rw [hu] at p1
      obtain ⟨c1, c2, c3⟩ := p1
      dsimp only at c1 c2 c3 ⊢
      obtain ⟨e1, e2⟩ := hostEnd_le c3
      cases hh : hostL (subL xs b (hostEnd xs b)) with
      | none => exact ⟨c3, by simp⟩
      | some ho =>
        dsimp only
        have p2 := port_ok e2
        cases hp : portL xs (hostEnd xs b) with
        | error e => rw [hp] at p2; exact p2
        | ok q =>
          obtain ⟨po, c⟩ := q
          rw [hp] at p2
          obtain ⟨d1, d2, d3, d4⟩ := p2
          dsimp only at d1 d2 d3 d4 ⊢
          have p3 := tail_ok (stops := [59, 63]) (sc := lowS (xs.take k)) (us := us) (ho := ho) (po := po) hx d4
          cases ht : tailL xs [59, 63] (lowS (xs.take k)) us ho po c with
          | error e => rw [ht] at p3; exact p3
          | ok u =>
            rw [ht] at p3
            obtain ⟨f1, f2, f3, f4, f5, f6, f7, f8⟩ := p3
            refine ⟨by rw [f2]; exact c1, f5, f6, f7, f8, .inl ⟨by rw [f1]; exact h2, by rw [f3]; exact host_idem hh, by rw [f3]; exact host_by hh (hx.sub (subL_sub _ _ _)), by rw [f4]; exact d1, by rw [f4]; exact d2, by rw [f2]; exact c2⟩⟩
  rw [if_neg h2]
  by_cases h3 : lowS (xs.take k) = TELT
  · rw [if_pos h3]
    have p1 := phone_ok (xs := xs) (show k + 1 ≤ xs.length by omega)
    cases hp : phoneL xs (k + 1) with
    | error e => rw [hp] at p1; exact p1
    | ok r =>
      obtain ⟨us, c⟩ := r
      rw [hp] at p1
      obtain ⟨c1, c2, c3⟩ := p1
      dsimp only at c1 c2 c3 ⊢
      have hc : c = untilL xs (k + 1) [59] := by
        unfold phoneL at hp
        dsimp only at hp
        split at hp
        · cases hp
        · split at hp
          · cases hp
          · split at hp
            · cases hp
            · injection hp with hp
              injection hp with _ hp
              exact hp.symm
      have p3 := tail_ok (stops := [59]) (sc := lowS (xs.take k)) (us := us) (ho := []) (po := 0) hx c3
      cases ht : tailL xs [59] (lowS (xs.take k)) us [] 0 c with
      | error e => rw [ht] at p3; exact p3
      | ok u =>
        rw [ht] at p3
        obtain ⟨f1, f2, f3, f4, f5, f6, f7, f8⟩ := p3
        have fh : u.hs = [] := by
          unfold tailL at ht
          cases hq : psN xs [59] (xs.length + 1) c [] with
          | error e => rw [hq] at ht; cases ht
          | ok r =>
            obtain ⟨ps, b⟩ := r
            have hb := ps_end _ _ _ c3 (by omega) (by
              by_cases hl : c = xs.length
              · exact .inl hl
              · right
                unfold atL
                have := until_stop (xs := xs) (a := k + 1) (st := [59]) (by rw [← hc]; omega)
                rw [← hc] at this
                rw [List.contains_iff_mem, List.mem_singleton] at this
                rw [decide_eq_true (show c < xs.length by omega), this]; rfl) _ hq
            rw [hq] at ht
            dsimp only at hb ht
            have he : hsN xs (xs.length + 1) b [] = .ok [] := by unfold hsN; rw [if_pos (by omega)]
            rw [he] at ht
            injection ht with ht
            rw [← ht]; rfl
        exact ⟨by rw [f2]; exact c1, f5, f6, f7, f8, .inr ⟨by rw [f1]; exact h3, f3, f4, fh, by rw [f2]; exact c2⟩⟩
  · rw [if_neg h3]; exact ⟨Nat.zero_le _, by simp⟩
end Go.Proofs.YthfonniieaiocaaGreatDoor
