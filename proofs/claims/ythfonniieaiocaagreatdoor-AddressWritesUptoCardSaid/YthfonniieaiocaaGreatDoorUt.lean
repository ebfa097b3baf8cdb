/- Plain: what a parameter list holds. And what stands behind it. -/
import Derived.Test.YthfonniieaiocaaGreatDoorVc
import Derived.Test.YthfonniieaiocaaGreatDoorVa
set_option linter.unusedVariables false
set_option linter.unusedSimpArgs false
namespace Go.Proofs.YthfonniieaiocaaGreatDoor
open Go.RowKit

theorem join_sum (l : List (List Int)) : (joinL [58] l).length + 1 ≤ (l.map (fun p => p.length + 1)).sum + 1 ∧ (l ≠ [] → (joinL [58] l).length + 1 = (l.map (fun p => p.length + 1)).sum) := by
  induction l with
  | nil => exact ⟨by rw [joinL_nil]; simp, fun h => absurd rfl h⟩
  | cons p r ih =>
    cases r with
    | nil => rw [joinL_one]; exact ⟨by simp, fun _ => by simp⟩
    | cons q r =>
      have h := ih.2 (by simp)
      have : (joinL [58] (p :: q :: r)).length + 1 = ((p :: q :: r).map (fun p => p.length + 1)).sum := by
        rw [joinL_cons, List.length_append, List.length_append, List.map_cons, List.sum_cons, ← h, List.length_singleton]
        omega
      exact ⟨by omega, fun _ => this⟩
theorem grpN_le {g : List Int} (h : 1 ≤ g.length) : (grpN g).length ≤ g.length := by
  rw [grpN_eq]
  split
  · simpa using h
  · exact Nat.le_trans (List.dropWhile_sublist _).length_le (by rw [lowS_len]; exact Nat.le_refl _)
theorem sum_mono {l : List (List Int)} {f : List Int → List Int} (h : ∀ p ∈ l, (f p).length ≤ p.length) : ((l.map f).map (fun p => p.length + 1)).sum ≤ (l.map (fun p => p.length + 1)).sum := by
  induction l with
  | nil => exact Nat.le_refl _
  | cons p l ih =>
    have h1 := h p (by simp)
    have h2 := ih fun q hq => h q (List.mem_cons_of_mem _ hq)
    simp only [List.map_cons, List.sum_cons] at h2 ⊢
    omega
theorem side_shrink {s : List Int} {l : List (List Int)} (h : sideL s = some l) : (joinL [58] l).length ≤ s.length := by
  unfold sideL at h
  split at h
  · injection h with h; subst h; rw [joinL_nil]; simp
  · unfold grpL at h
    split at h
    · rename_i h1
      injection h with h
      subst h
      have h2 := sum_mono (l := cutL 58 s) (f := grpN) fun p hp => grpN_le (grpOK_iff.1 (List.all_eq_true.1 h1 p hp)).1.1
      rw [cut_sum] at h2
      have h3 := (join_sum ((cutL 58 s).map grpN)).2 (by
        intro e
        have := cut_sum 58 s
        rw [List.map_eq_nil_iff.1 e] at this
        simp at this)
      omega
    · cases h
theorem host_len {s h : List Int} (hh : hostL s = some h) : h.length ≤ s.length := by
  unfold hostL at hh
  split at hh
  · rename_i hb
    rw [Option.map_eq_some_iff] at hh
    obtain ⟨g, hg, e⟩ := hh
    subst e
    rw [← rsixL_eq] at hg
    have hl : (subL s 1 (s.length - 1)).length = s.length - 2 := by rw [subL_len (by omega)]; omega
    have : g.length ≤ (subL s 1 (s.length - 1)).length := by
      generalize subL s 1 (s.length - 1) = z at hg
      unfold rsixL at hg
      cases hd : dblL z with
      | some p =>
        rw [hd] at hg
        dsimp only at hg
        cases hx : sideL p.1 with
        | none => rw [hx] at hg; cases hg
        | some x =>
          cases hy : sideL p.2 with
          | none => rw [hx, hy] at hg; cases hg
          | some y =>
            rw [hx, hy] at hg
            dsimp only at hg
            split at hg
            · cases hg
            · injection hg with hg
              subst hg
              have h1 := side_shrink hx
              have h2 := side_shrink hy
              have h3 := dbl_len hd
              simp only [List.length_append, List.length_cons, List.length_nil]
              omega
      | none =>
        rw [hd] at hg
        dsimp only at hg
        cases hx : sideL z with
        | none => rw [hx] at hg; cases hg
        | some l =>
          rw [hx] at hg
          dsimp only at hg
          split at hg
          · injection hg with hg
            subst hg
            exact side_shrink hx
          · cases hg
    simp only [List.length_append, List.length_cons, List.length_nil]
    omega
  · split at hh
    · injection hh with hh; subst hh; exact Nat.le_refl _
    · split at hh
      · injection hh with hh; subst hh; rw [lowS_len]; exact Nat.le_refl _
      · cases hh
theorem host_close {xs h : List Int} {a : Nat} (ha : a < xs.length) (h91 : xs.getD a 0 = 91) (hh : hostL (subL xs a (min (untilL xs a [93] + 1) xs.length)) = some h) : untilL xs a [93] + 1 ≤ xs.length ∧ a < untilL xs a [93] + 1 := by
  obtain ⟨u1, u2⟩ := until_le (xs := xs) (a := a) (st := [93]) (by omega)
  refine ⟨?_, by omega⟩
  by_cases hu : untilL xs a [93] + 1 ≤ xs.length
  · exact hu
  exfalso
  have hm : min (untilL xs a [93] + 1) xs.length = xs.length := by omega
  rw [hm] at hh
  have h93 : ∀ c ∈ subL xs a xs.length, c ≠ 93 := fun c hc => by
    have he : untilL xs a [93] = xs.length := by omega
    unfold untilL skipTo at he
    have hl : ((xs.drop a).takeWhile fun c => !([93] : List Int).contains c).length = (xs.drop a).length := by rw [List.length_drop]; omega
    have ht := (List.takeWhile_sublist (fun c => !([93] : List Int).contains c) (l := xs.drop a)).eq_of_length hl
    have ha2 : ((xs.drop a).takeWhile fun c => !([93] : List Int).contains c).all (fun c => !([93] : List Int).contains c) = true := List.all_takeWhile
    rw [ht] at ha2
    have hc2 : c ∈ xs.drop a := by unfold subL at hc; exact List.mem_of_mem_take hc
    have := List.all_eq_true.1 ha2 c hc2
    intro e
    subst e
    simp at this
  have hhd : (subL xs a xs.length).getD 0 0 = 91 := by
    unfold subL
    rw [drop_consI xs ha, h91, List.take_cons (by omega)]
    rfl
  have h91m : (91 : Int) ∈ subL xs a xs.length := by
    rw [← hhd]
    refine getD_mem ?_
    rw [subL_len (Nat.le_refl _)]; omega
  generalize subL xs a xs.length = z at *
  unfold hostL at hh
  split at hh
  · rename_i hb
    exact h93 _ (getD_mem (l := z) (i := z.length - 1) (by omega)) hb.2.2
  · split at hh
    · rename_i hn
      exact (hostC_range (numbers_chars hn _ h91m)).2.2.2.2.1 rfl
    · split at hh
      · rename_i hn
        exact (hostC_range (named_chars hn _ h91m)).2.2.2.2.1 rfl
      · cases hh
theorem listedH_ok {X : List Int} {a a' : Nat} {p : Pm} (hX : By X) (ha : a ≤ X.length) (h : listedH X a = .ok (p, a')) : By p.n ∧ By p.v ∧ p.n.length ≤ X.length ∧ p.v.length ≤ X.length ∧ a < a' ∧ a' ≤ X.length := by
  obtain ⟨e1, he1⟩ : ∃ k, skipTo isTok X a = k := ⟨_, rfl⟩
  obtain ⟨a1, ha1⟩ : ∃ k, skipTo isBlank X e1 = k := ⟨_, rfl⟩
  obtain ⟨a2, ha2⟩ : ∃ k, skipTo isBlank X (a1 + 1) = k := ⟨_, rfl⟩
  obtain ⟨e3, he3⟩ : ∃ k, skipTo isTok X a2 = k := ⟨_, rfl⟩
  rw [listedH_eq he1 ha1 ha2, he3] at h
  have ae1 : a ≤ e1 := by rw [← he1]; exact skip_ge _ _ _
  have e1s : e1 ≤ X.length := by rw [← he1]; exact skip_le ha
  have e1a1 : e1 ≤ a1 := by rw [← ha1]; exact skip_ge _ _ _
  have a1s : a1 ≤ X.length := by rw [← ha1]; exact skip_le e1s
  have nB : By (lowS (subL X a e1)) := lowS_by (hX.sub (subL_sub X a e1))
  have nL : (lowS (subL X a e1)).length ≤ X.length := by rw [lowS_len, subL_len e1s]; omega
  split at h
  · cases h
  rename_i h0
  split at h
  · injection h with h
    injection h with h1 h2
    subst h1; subst h2
    exact ⟨nB, fun x hx => (by cases hx), nL, Nat.zero_le _, by omega, a1s⟩
  rename_i h1
  have h1' : a1 < X.length := (atL_lt h1).1
  have a2g : a1 + 1 ≤ a2 := by rw [← ha2]; exact skip_ge _ _ _
  have a2s : a2 ≤ X.length := by rw [← ha2]; exact skip_le h1'
  split at h
  · split at h
    · cases h
    · rename_i h3
      injection h with h
      injection h with h4 h5
      subst h4; subst h5
      obtain ⟨q1, q2⟩ := unq_pos a2s
      have q3 := q2 (Classical.not_not.1 h3)
      obtain ⟨q4, q5⟩ := unq_mem X (a2 : Nat)
      exact ⟨nB, fun x hx => hX x (q4 x hx), nL, q5, by omega, q1⟩
  · split at h
    · rename_i h91
      cases hh : hostL (subL X a2 (min (untilL X a2 [93] + 1) X.length)) with
      | none => rw [hh] at h; cases h
      | some hv =>
        rw [hh] at h
        dsimp only at h
        injection h with h
        injection h with h4 h5
        subst h4; subst h5
        have hat := atL_lt (xs := X) (a := a2) (c := 91) (by rw [h91]; decide)
        obtain ⟨c1, c2⟩ := host_close hat.1 hat.2 hh
        have hl := host_len hh
        have hl2 : hv.length ≤ X.length := Nat.le_trans hl (subL_sub _ _ _).length_le
        exact ⟨nB, host_by hh (hX.sub (subL_sub _ _ _)), nL, hl2, by omega, c1⟩
    · split at h
      · cases h
      · injection h with h
        injection h with h4 h5
        subst h4; subst h5
        have e3g : a2 ≤ e3 := by rw [← he3]; exact skip_ge _ _ _
        have e3s : e3 ≤ X.length := by rw [← he3]; exact skip_le a2s
        exact ⟨nB, hX.sub (subL_sub X a2 e3), nL, by rw [subL_len e3s]; omega, by omega, e3s⟩
theorem listedH_err {X : List Int} {a z : Nat} {k : Int} (ha : a ≤ X.length) (h : listedH X a = .error (z, k)) : k ≠ 0 ∧ z ≤ X.length := by
  rw [listedH_eq rfl rfl rfl] at h
  have e1s : skipTo isTok X a ≤ X.length := skip_le ha
  have a1s : skipTo isBlank X (skipTo isTok X a) ≤ X.length := skip_le e1s
  split at h
  · injection h with h; injection h with h1 h2; subst h2; subst h1; exact ⟨by decide, e1s⟩
  split at h
  · cases h
  rename_i h61
  have a2s : skipTo isBlank X (skipTo isBlank X (skipTo isTok X a) + 1) ≤ X.length := skip_le (atL_lt h61).1
  split at h
  · split at h
    · rename_i h3
      injection h with h; injection h with h1 h2; subst h2; subst h1; exact ⟨h3, (unq_pos a2s).1⟩
    · cases h
  · split at h
    · cases hh : hostL (subL X (skipTo isBlank X (skipTo isBlank X (skipTo isTok X a) + 1)) (min (untilL X (skipTo isBlank X (skipTo isBlank X (skipTo isTok X a) + 1)) [93] + 1) X.length)) with
      | none => rw [hh] at h; dsimp only at h; injection h with h; injection h with h1 h2; subst h2; subst h1; exact ⟨by decide, a2s⟩
      | some hv => rw [hh] at h; cases h
    · split at h
      · injection h with h; injection h with h1 h2; subst h2; subst h1; exact ⟨by decide, a2s⟩
      · cases h
theorem pars_ok {X : List Int} (hX : By X) : ∀ (f a : Nat) (l : List Pm), a ≤ X.length → l.length ≤ 16 → (∀ p ∈ l, By p.n ∧ By p.v) → match parsN X f a l with
    | .ok m => m.length ≤ 16 ∧ ∀ p ∈ m, By p.n ∧ By p.v
    | .error e => e.1 ≤ X.length ∧ e.2 ≠ 0
  | 0, a, l, _, hl, hb => ⟨hl, hb⟩
  | f + 1, a, l, ha, hl, hb => by
    rw [parsN_eq rfl rfl]
    have a0s : skipTo isBlank X a ≤ X.length := skip_le ha
    by_cases h1 : X.length ≤ skipTo isBlank X a
    · rw [if_pos h1]; exact ⟨hl, hb⟩
    rw [if_neg h1]
    by_cases h2 : X.getD (skipTo isBlank X a) 0 ≠ 59
    · rw [if_pos h2]; exact ⟨a0s, show (5 : Int) ≠ 0 by decide⟩
    rw [if_neg h2]
    have a1s : skipTo isBlank X (skipTo isBlank X a + 1) ≤ X.length := skip_le (by omega)
    cases hr : listedH X (skipTo isBlank X (skipTo isBlank X a + 1)) with
    | error e => exact ⟨(listedH_err a1s hr).2, (listedH_err a1s hr).1⟩
    | ok q =>
      obtain ⟨p, a2⟩ := q
      dsimp only
      obtain ⟨b1, b2, _, _, _, b6⟩ := listedH_ok hX a1s hr
      by_cases hroom : roomL l p.n ≠ 0
      · rw [if_pos hroom]; exact ⟨a1s, hroom⟩
      · rw [if_neg hroom]
        have h16 : l.length < 16 := by
          unfold roomL at hroom
          split at hroom
          · simp at hroom
          · split at hroom
            · simp at hroom
            · omega
        refine pars_ok hX f a2 (l ++ [p]) b6 (by simp; omega) fun q hq => ?_
        rcases List.mem_append.1 hq with hq | hq
        · exact hb q hq
        · rw [List.mem_singleton] at hq; subst hq; exact ⟨b1, b2⟩

theorem atL_iff {X : List Int} {i : Nat} {c : Int} : atL X i c = true ↔ (i < X.length ∧ X.getD i 0 = c) := by
  unfold atL; rw [Bool.and_eq_true, decide_eq_true_iff, beq_iff_eq]
theorem atL_no {X : List Int} {i : Nat} {c : Int} : atL X i c = false ↔ ¬ (i < X.length ∧ X.getD i 0 = c) := by
  rw [← atL_iff]; simp
theorem listedH_eq2 {X : List Int} {a e1 a1 a2 e3 : Nat} (h1 : skipTo isTok X a = e1) (h2 : skipTo isBlank X e1 = a1) (h3 : skipTo isBlank X (a1 + 1) = a2) (h4 : skipTo isTok X a2 = e3) : listedH X a =
    if e1 = a then .error (e1, 5)
    else if ¬ (a1 < X.length ∧ X.getD a1 0 = 61) then .ok (⟨lowS (subL X a e1), [], false⟩, a1)
    else if a2 < X.length ∧ X.getD a2 0 = 34 then (if (unq X (a2 : Nat)).2.2 ≠ 0 then .error ((unq X (a2 : Nat)).2.1, (unq X (a2 : Nat)).2.2) else .ok (⟨lowS (subL X a e1), (unq X (a2 : Nat)).1, true⟩, (unq X (a2 : Nat)).2.1))
    else if a2 < X.length ∧ X.getD a2 0 = 91 then
      (match hostL (subL X a2 (min (untilL X a2 [93] + 1) X.length)) with
      | none => .error (a2, 5)
      | some h => .ok (⟨lowS (subL X a e1), h, true⟩, untilL X a2 [93] + 1))
    else if e3 = a2 then .error (a2, 5) else .ok (⟨lowS (subL X a e1), subL X a2 e3, true⟩, e3) := by
  rw [listedH_eq h1 h2 h3, h4]
  by_cases c0 : e1 = a
  · rw [if_pos c0, if_pos c0]
  rw [if_neg c0, if_neg c0]
  by_cases c1 : a1 < X.length ∧ X.getD a1 0 = 61
  · rw [if_neg (show ¬ (atL X a1 61 = false) from fun h => atL_no.1 h c1), if_neg (show ¬ ¬ (a1 < X.length ∧ X.getD a1 0 = 61) from fun h => h c1)]
    by_cases c2 : a2 < X.length ∧ X.getD a2 0 = 34
    · rw [if_pos (atL_iff.2 c2), if_pos c2]
    · rw [if_neg (fun h => c2 (atL_iff.1 h)), if_neg c2]
      by_cases c3 : a2 < X.length ∧ X.getD a2 0 = 91
      · rw [if_pos (atL_iff.2 c3), if_pos c3]; rfl
      · rw [if_neg (fun h => c3 (atL_iff.1 h)), if_neg c3]
  · rw [if_pos (atL_no.2 c1), if_pos c1]
set_option maxRecDepth 100000 in
set_option maxHeartbeats 2000000 in
theorem listedh_any (w0 w : World) (b a : Nat) (s : ByteArray) (h : Row w b 84 [.string s, .int .i64 a]) (ha : a ≤ s.size) (hs : s.size ≤ 4000000) (hb0 : Below w0.heap.size w0 w) (hge : w0.heap.size ≤ b) (hG : GM w0) (hP : PT w0) :
    Calls Tryz.prog 107 #[.pointer (some ⟨b, 0, none⟩)] w (ListP w b s (listedH (byteL s) a)) := by
  have HL := kd (byteL_len s)
  have HBY := kd (byteL_by s)
  have hbl := h.lt
  obtain ⟨e1, he1⟩ : ∃ k, skipTo isTok (byteL s) a = k := ⟨_, rfl⟩
  obtain ⟨a1, ha1⟩ : ∃ k, skipTo isBlank (byteL s) e1 = k := ⟨_, rfl⟩
  obtain ⟨a2, ha2⟩ : ∃ k, skipTo isBlank (byteL s) (a1 + 1) = k := ⟨_, rfl⟩
  obtain ⟨e3, he3⟩ : ∃ k, skipTo isTok (byteL s) a2 = k := ⟨_, rfl⟩
  have LE := kd (listedH_eq2 he1 ha1 ha2 he3)
  have ae1 : a ≤ e1 := by rw [← he1]; exact skip_ge _ _ _
  have e1s : e1 ≤ s.size := by rw [← he1, ← byteL_len s]; exact skip_le (by rw [byteL_len]; exact ha)
  have a1s : a1 ≤ s.size := by rw [← ha1, ← byteL_len s]; exact skip_le (by rw [byteL_len]; exact e1s)
  have A2S := kd (show a1 < s.size → a2 ≤ s.size from fun h => by rw [← ha2, ← byteL_len s]; exact skip_le (by rw [byteL_len]; omega))
  have AE3 := kd (show a2 ≤ e3 by rw [← he3]; exact skip_ge _ _ _)
  have E3S := kd (show a2 ≤ s.size → e3 ≤ s.size from fun h => by rw [← he3, ← byteL_len s]; exact skip_le (by rw [byteL_len]; exact h))
  have TE := kd (show (lowS (subL (byteL s) a e1)).isEmpty = decide (e1 = a) by rw [lowS_empty, subL_empty (by rw [byteL_len]; exact e1s) ae1])
  have TBY := kd (byteL_str (HBY.out.sub (subL_sub (byteL s) a e1)))
  have TLN := kd (show (subL (byteL s) a e1).length ≤ 4000000 by rw [subL_len (by rw [byteL_len]; exact e1s)]; omega)
  have TOK := kd (fun w a e h1 h2 (h3 : skipTo isTok (byteL s) a = e) => show Calls Tryz.prog 147 #[.pointer (some ⟨b, 0, none⟩)] w fun r w' => r = .returned (.string (strOfNums (subL (byteL s) a e))) ∧ CG w b s e w' by subst h3; exact curtoken_any w b a s h1 h2 hs)
  have BLK := kd (fun w a e h1 h2 (h3 : skipTo isBlank (byteL s) a = e) => show Calls Tryz.prog 80 #[.pointer (some ⟨b, 0, none⟩)] w fun r w' => r = .returned (.tuple #[]) ∧ CG w b s e w' by subst h3; exact curblanks_any w b a s h1 h2 hs)
  have SEE := kd (fun w a c h1 => cursees_any w b a c s h1)
  have UNQ := kd (fun (i : Nat) U w h1 h2 => unquote_b s i U w h1 h2 hs)
  have VE := kd (fun (hv : a2 ≤ s.size) => show (subL (byteL s) a2 e3).isEmpty = decide (e3 = a2) from subL_empty (by rw [byteL_len]; exact E3S.out hv) AE3.out)
  have HE1 := kd he1; have HA1 := kd ha1; have HA2 := kd ha2; have HE3 := kd he3
  clear he1 ha1 ha2 he3
  have HGP := kd (fun W (g : w.grownBy W (some b)) => show GM W ∧ PT W from by
    have h := hb0.grown g hb0.size (fun k hk => by cases hk; exact hge)
    exact ⟨hG.below h, hP.below h⟩)
  have HOS := kd (fun (i j : Nat) W (hg : GM W) (hp : PT W) => show Calls Tryz.prog 20 #[.string (s.extract i j)] W fun e w' => e = .returned (hostV (hostL (subL (byteL s) i j))) ∧ Below W.heap.size W w' by
    have ZS : (s.extract i j).size ≤ 4000000 := by rw [← byteL_len, byteL_extract]; rw [List.length_take, List.length_drop, byteL_len]; omega
    have := adhost_any (s.extract i j) W ZS hg hp
    rwa [show byteL (s.extract i j) = subL (byteL s) i j from byteL_extract s i j] at this)
  have UNT := kd (fun (i : Nat) w (hi : i ≤ s.size) => until_any s ⟨#[93]⟩ i w hs hi (by decide) (by decide) asc_93)
  simp only [show byteL ⟨#[93]⟩ = [93] by rfl] at UNT
  have UNL := kd (fun (i : Nat) (hi : i ≤ s.size) => show i ≤ untilL (byteL s) i [93] ∧ untilL (byteL s) i [93] ≤ s.size from by
    have := until_le (xs := byteL s) (a := i) (st := [93]) (by rw [byteL_len]; exact hi)
    rwa [byteL_len] at this)
  have HCL := kd (fun (i : Nat) hv (h1 : i < (byteL s).length) h2 h3 => host_close (xs := byteL s) (a := i) (h := hv) h1 h2 h3)
  clear hb0 hge hG hP
  have RC := kd h
  clear h
  generalize listedH (byteL s) a = R at *
  generalize byteL s = X at *
  have R0 := kd (Row.new w 56 [.string ⟨#[]⟩, .string ⟨#[]⟩, .bool false])
  have B0 := kd ((Below.refl w.heap.size w).alloc (Nat.le_refl _) (.cells #[.string ⟨#[]⟩, .string ⟨#[]⟩, .bool false] 56))
  go_enter Tryz.func107, Tryz.ntmps107
  go_wp2_with fail
  generalize w.alloc (.cells #[.string ⟨#[]⟩, .string ⟨#[]⟩, .bool false] 56) = W0 at *
  refine (TOK.out W0 a e1 (RC.out.below B0.out) ha HE1.out).mono ?_
  rintro e w1 ⟨rfl, hc⟩
  have C1 := kd (((CG.refl RC.out).call B0.out).trans hc)
  have R1 := kd (R0.out.heap (hc.g.block w.heap.size R0.out.lt (fun e => by injection e; omega)))
  clear hc R0 B0
  go_wp2_with fail
  refine (adlower_any _ _ (by rw [num_size]; exact TLN.out)).mono ?_
  rintro e w2 ⟨rfl, hb⟩
  rw [TBY.out]
  have C2 := kd (C1.out.call hb)
  have R2 := kd (R1.out.below hb)
  clear hb C1 R1
  obtain ⟨nm, hnm⟩ : ∃ nm, lowS (subL X a e1) = nm := ⟨_, rfl⟩
  rw [hnm] at TE LE ⊢
  have NE := kd (empty_beq nm)
  rw [TE.out] at NE
  clear hnm TE TBY TLN
  go_upto_region 2 with (fail)
  have BN := kd ((Below.refl w2.heap.size w2).alloc (Nat.le_refl _) (.cells #[.string (strOfNums nm), .string ⟨#[]⟩, .bool false] 56))
  have L3 := kd (show LM w b s e1 w.heap.size w2.heap.size [.string ⟨#[]⟩, .string ⟨#[]⟩, .bool false] [.string (strOfNums nm), .string ⟨#[]⟩, .bool false] (w2.alloc (.cells #[.string (strOfNums nm), .string ⟨#[]⟩, .bool false] 56)) from ⟨C2.out.call BN.out, R2.out.alloc _, Row.new w2 56 [.string (strOfNums nm), .string ⟨#[]⟩, .bool false], Nat.le_refl _, C2.out.g.size, Nat.ne_of_lt R2.out.lt, hbl⟩)
  generalize w2.alloc (.cells #[.string (strOfNums nm), .string ⟨#[]⟩, .bool false] 56) = w3 at *
  clear C2 R2 BN
  generalize w2.heap.size = pb at *
  have k0 := L3.out.rp.cell 0
  simp only [List.getElem?_cons_succ, List.getElem?_cons_zero] at k0
  by_cases h0 : e1 = a
  · have hq : ((strOfNums nm).toList == ([] : List UInt8)) = true := NE.out.trans (decide_eq_true h0)
    have E := kd (LE.out.trans (if_pos h0))
    clear LE NE h0
    go_wp2_with fail
    clear k0 hq
    have q1 := fun x : BW w3 => L3.out.c.r.later x 1
    simp only [List.getElem?_cons_succ, List.getElem?_cons_zero] at q1
    refine region_bw (by kernel_rfl) (by kernel_rfl) ?_
    iterate 5 go_big_quiet_step (fail)
    go_big_quiet_want
    refine quiet_same 56 (.tmp 2) (.tmp 19) rfl [.string ⟨#[]⟩, .string ⟨#[]⟩, .bool false] L3.out.rr rfl rfl (sizePm _ _ _) (pm_one _ _ _) ?_
    simp only [Act.put, List.setIfInBounds_toArray, List.set_cons_zero, List.set_cons_succ]
    go_big_quiet_on
    iterate 2 go_big_quiet_step (fail)
    refine wpQuiet_nil ?_
    rintro _ ⟨x, rfl⟩
    have LX := kd (L3.out.call x.h)
    have RR := kd LX.out.rr
    clear q1
    go_wp2_with fail
    exact bodyPost_ret (results_cuv rfl _ _ _ w.heap.size [.string ⟨#[]⟩, .string ⟨#[]⟩, .bool false] _ rfl RR.out.range Tryz.underlying56 rfl (sizePm _ _ _)) rfl (by exact ListP.bad E.out LX.out.c)
  have hq : ((strOfNums nm).toList == ([] : List UInt8)) = false := NE.out.trans (decide_eq_false h0)
  have LE1 := kd (LE.out.trans (if_neg h0))
  clear LE NE h0
  go_wp2_with fail
  clear k0 hq
  refine (BLK.out w3 e1 a1 L3.out.c.r e1s HA1.out).mono ?_
  rintro e w4 ⟨rfl, hc⟩
  have L4 := kd (L3.out.cur hc)
  clear hc L3
  go_wp2_with fail
  refine (SEE.out w4 a1 61 L4.out.c.r).mono ?_
  rintro e w5 ⟨rfl, q, rfl⟩
  have L5 := kd (L4.out.call (below_drewN _ q))
  clear L4
  generalize w4.drewN q = w5 at *
  by_cases h1 : a1 < X.length ∧ X.getD a1 0 = 61
  case neg =>
    rw [seesB_no h1]
    have E := kd (LE1.out.trans (if_pos h1))
    clear LE1 h1
    go_wp2_with (first
      | (with_reducible refine wpList_loadR rfl 56 (.tmp 5) rfl L5.out.rp rfl Tryz.underlying56 rfl (sizePm _ _ _) ?_)
      | (with_reducible refine wpList_storeG rfl 56 (.tmp 2) (.tmp 29) rfl L5.out.rr [.string (strOfNums nm), .string ⟨#[]⟩, .bool false] rfl rfl (lenPm _ _ _ _ _ _) (sizePm _ _ _) (pm_one _ _ _) ?_))
    intro w9 RR G9
    have CF := kd ((L5.out.putr RR.out G9.out).c)
    go_wp2_with fail
    exact bodyPost_ret (results_cuv rfl _ _ _ w.heap.size [.string (strOfNums nm), .string ⟨#[]⟩, .bool false] _ rfl RR.out.range Tryz.underlying56 rfl (sizePm _ _ _)) rfl (by exact ListP.good E.out CF.out)
  case pos =>
  rw [seesB_yes h1]
  have LE2 := kd (LE1.out.trans (if_neg (fun h => h h1)))
  have a1l : a1 < s.size := by rw [← HL.out]; exact h1.1
  have a2s := A2S.out a1l
  clear LE1 h1
  have k1 := L5.out.c.r.cell 1
  simp only [List.getElem?_cons_succ, List.getElem?_cons_zero] at k1
  have f1 := L5.out.c.r.frozen 1
  have L6 := kd (L5.out.cset (a1 + 1) (z := (a1 : Int) + 1) (by push_cast; rfl))
  go_wp2_with fail
  clear k1 f1 L5
  generalize w5.setCell ⟨b, 1, none⟩ (.int .i64 ((a1 : Int) + 1)) = w6 at *
  refine (BLK.out w6 (a1 + 1) a2 L6.out.c.r a1l HA2.out).mono ?_
  rintro e w7 ⟨rfl, hc⟩
  have L7 := kd (L6.out.cur hc)
  clear hc L6
  have k2 := L7.out.rp.cell 2
  simp only [List.getElem?_cons_succ, List.getElem?_cons_zero] at k2
  have f2 := L7.out.rp.frozen 2
  have L8 := kd (show LM w b s a2 w.heap.size pb [.string ⟨#[]⟩, .string ⟨#[]⟩, .bool false] [.string (strOfNums nm), .string ⟨#[]⟩, .bool true] _ from L7.out.pset 2 (.bool true))
  go_wp2_with fail
  clear k2 f2 L7
  generalize w7.setCell ⟨pb, 2, none⟩ (.bool true) = w8 at *
  refine (SEE.out w8 a2 34 L8.out.c.r).mono ?_
  rintro e w9 ⟨rfl, q9, rfl⟩
  have L9 := kd (L8.out.call (below_drewN _ q9))
  clear L8
  generalize w8.drewN q9 = W9 at *
  by_cases h2 : a2 < X.length ∧ X.getD a2 0 = 34
  case pos =>
    rw [seesB_yes h2]
    have LE3 := kd (LE2.out.trans (if_pos h2))
    clear LE2 h2
    obtain ⟨U, hU⟩ : ∃ U, unq X (a2 : Nat) = U := ⟨_, rfl⟩
    rw [hU] at LE3
    have HU := kd hU
    clear hU
    obtain ⟨u1, u2, u3⟩ := U
    dsimp only at LE3
    go_wp2_with fail
    have q0 := fun x : BW W9 => L9.out.c.r.later x 0
    have q1 := fun x : BW W9 => L9.out.c.r.later x 1
    simp only [List.getElem?_cons_succ, List.getElem?_cons_zero] at q0 q1
    refine region_bw (by kernel_rfl) (by kernel_rfl) ?_
    iterate 9 go_big_quiet_step (fail)
    go_big_quiet_step (exact calls_bw (UNQ.out a2 (u1, u2, u3) _ HU.out a2s))
    iterate 7 go_big_quiet_step (fail)
    refine wpQuiet_nil ?_
    rintro _ ⟨x, rfl⟩
    have LX := kd (L9.out.call x.h)
    clear q0 q1 L9
    generalize x.w = W10 at *
    by_cases h3 : u3 = 0
    · subst h3
      have E := kd (LE3.out.trans (if_neg (fun h => h rfl)))
      clear LE3
      have k1 := LX.out.rp.cell 1
      simp only [List.getElem?_cons_succ, List.getElem?_cons_zero] at k1
      have f1 := LX.out.rp.frozen 1
      have L11 := kd (show LM w b s a2 w.heap.size pb [.string ⟨#[]⟩, .string ⟨#[]⟩, .bool false] [.string (strOfNums nm), .string (strOfNums u1), .bool true] _ from LX.out.pset 1 (.string (strOfNums u1)))
      have k3 := L11.out.c.r.cell 1
      simp only [List.getElem?_cons_succ, List.getElem?_cons_zero] at k3
      have f3 := L11.out.c.r.frozen 1
      have L12 := kd (L11.out.cset u2 rfl)
      clear LX L11
      go_wp2_with (first
        | (with_reducible refine wpList_loadR rfl 56 (.tmp 5) rfl L12.out.rp rfl Tryz.underlying56 rfl (sizePm _ _ _) ?_)
        | (with_reducible refine wpList_storeG rfl 56 (.tmp 2) (.tmp 128) rfl L12.out.rr [.string (strOfNums nm), .string (strOfNums u1), .bool true] rfl rfl (lenPm _ _ _ _ _ _) (sizePm _ _ _) (pm_one _ _ _) ?_))
      intro w9 RR G9
      have CF := kd ((L12.out.putr RR.out G9.out).c)
      go_wp2_with fail
      exact bodyPost_ret (results_cuv rfl _ _ _ w.heap.size [.string (strOfNums nm), .string (strOfNums u1), .bool true] _ rfl RR.out.range Tryz.underlying56 rfl (sizePm _ _ _)) rfl (by exact ListP.good E.out CF.out)
    · have hb3 : (u3 != 0) = true := by simp only [bne_iff_ne]; exact h3
      have E := kd (LE3.out.trans (if_pos h3))
      clear LE3 h3
      go_wp2_with (with_reducible refine wpList_storeG rfl 56 (.tmp 2) (.tmp 70) rfl LX.out.rr [.string ⟨#[]⟩, .string ⟨#[]⟩, .bool false] rfl rfl (lenPm _ _ _ _ _ _) (sizePm _ _ _) (pm_one _ _ _) ?_)
      intro w9 RR G9
      have CF := kd ((LX.out.putr RR.out G9.out).c)
      go_wp2_with fail
      exact bodyPost_ret (results_cuv rfl _ _ _ w.heap.size [.string ⟨#[]⟩, .string ⟨#[]⟩, .bool false] _ rfl RR.out.range Tryz.underlying56 rfl (sizePm _ _ _)) rfl (by exact ListP.bad E.out CF.out)
  case neg =>
  rw [seesB_no h2]
  have LE3 := kd (LE2.out.trans (if_neg h2))
  clear LE2 h2
  go_wp2_with fail
  refine (SEE.out W9 a2 91 L9.out.c.r).mono ?_
  rintro e wa ⟨rfl, qa, rfl⟩
  have LA := kd (L9.out.call (below_drewN _ qa))
  clear L9
  generalize W9.drewN qa = WA at *
  by_cases h4 : a2 < X.length ∧ X.getD a2 0 = 91
  case pos =>
    rw [seesB_yes h4]
    have LE4 := kd (LE3.out.trans (if_pos h4))
    obtain ⟨hgm, hpt⟩ := HGP.out WA LA.out.c.g
    have UN := kd (fun w => UNT.out a2 w a2s)
    obtain ⟨u1, u2⟩ := UNL.out a2 a2s
    have HC2 := kd (fun hv h3 => HCL.out a2 hv h4.1 h4.2 h3)
    obtain ⟨e93, he93⟩ : ∃ k, untilL X a2 [93] = k := ⟨_, rfl⟩
    rw [he93] at LE4 UN u1 u2 HC2
    obtain ⟨he, hhe⟩ : ∃ k, min (e93 + 1) X.length = k := ⟨_, rfl⟩
    rw [hhe] at LE4 HC2
    have a2l : a2 < s.size := by rw [← HL.out]; exact h4.1
    have E2 : min ((e93 : Int) + 1) (s.size : Int) = (he : Int) := by rw [← hhe, HL.out]; omega
    have i1 : (a2 : Int) ≤ (he : Int) := by rw [← hhe, HL.out]; omega
    have i2 : (he : Int) ≤ (s.size : Int) := by rw [← hhe, HL.out]; omega
    have HO := kd (fun x : BW WA => HOS.out a2 he x.w (hgm.below x.h) (hpt.below x.h))
    have HQ := kd (fun (W : World) (hb : Below WA.heap.size WA W) (x : BW W) => HO.out ⟨x.w, bthen hb x.h⟩)
    obtain ⟨HV, hHV⟩ : ∃ HV, hostL (subL X a2 he) = HV := ⟨_, rfl⟩
    rw [hHV] at LE4 HQ HC2
    clear hHV hhe he93 h4 LE3 hgm hpt HO UNT UNL HCL HOS HGP
    go_upto_region 19 with (fail)
    have q1 := fun x : BW WA => LA.out.c.r.later x 1
    simp only [List.getElem?_cons_succ, List.getElem?_cons_zero] at q1
    refine region_bw (by kernel_rfl) (by kernel_rfl) ?_
    iterate 3 go_big_quiet_step (fail)
    go_big_quiet_want
    refine quiet_part 82 (.tmp 84) rfl b rfl [.string s] _ (fun y => (LA.out.c.r.below y.h).text) Tryz.underlying82 rfl (sizeTx _) ?_
    simp only [Act.put, List.setIfInBounds_toArray, List.set_cons_zero, List.set_cons_succ]
    go_big_quiet_on
    iterate 4 go_big_quiet_step (fail)
    go_big_quiet_step (exact calls_bw (UN.out _))
    iterate 1 go_big_quiet_step (fail)
    refine wpQuiet_nil ?_
    rintro _ ⟨x, rfl⟩
    have LB := kd (LA.out.call x.h)
    have HQ2 := kd (HQ.out x.w x.h)
    clear q1 LA HQ UN
    generalize x.w = WB at *
    cases HV with
    | none =>
      rw [show hostV none = .tuple #[.string ⟨#[]⟩, .bool false] from rfl] at HQ2
      go_upto_region 20 with (fail)
      have q0 := fun x : BW WB => LB.out.c.r.later x 0
      have q1 := fun x : BW WB => LB.out.c.r.later x 1
      simp only [List.getElem?_cons_succ, List.getElem?_cons_zero] at q0 q1
      refine region_bw (by kernel_rfl) (by kernel_rfl) ?_
      iterate 19 go_big_quiet_step (fail)
      go_big_quiet_step (exact calls_bw (HQ2.out _))
      iterate 5 go_big_quiet_step (fail)
      refine wpQuiet_nil ?_
      rintro _ ⟨y, rfl⟩
      have LC := kd (LB.out.call y.h)
      clear q0 q1 LB HQ2
      generalize y.w = wc at *
      have E := kd (show R = .error (a2, 5) from LE4.out)
      clear LE4 HC2
      go_wp2_with fail
      have q1 := fun x : BW wc => LC.out.c.r.later x 1
      simp only [List.getElem?_cons_succ, List.getElem?_cons_zero] at q1
      refine region_bw (by kernel_rfl) (by kernel_rfl) ?_
      iterate 5 go_big_quiet_step (fail)
      go_big_quiet_want
      refine quiet_same 56 (.tmp 2) (.tmp 116) rfl [.string ⟨#[]⟩, .string ⟨#[]⟩, .bool false] LC.out.rr rfl rfl (sizePm _ _ _) (pm_one _ _ _) ?_
      simp only [Act.put, List.setIfInBounds_toArray, List.set_cons_zero, List.set_cons_succ]
      go_big_quiet_on
      iterate 2 go_big_quiet_step (fail)
      refine wpQuiet_nil ?_
      rintro _ ⟨x, rfl⟩
      have LX := kd (LC.out.call x.h)
      have RR := kd LX.out.rr
      clear q1
      go_wp2_with fail
      exact bodyPost_ret (results_cuv rfl _ _ _ w.heap.size [.string ⟨#[]⟩, .string ⟨#[]⟩, .bool false] _ rfl RR.out.range Tryz.underlying56 rfl (sizePm _ _ _)) rfl (by exact ListP.bad E.out LX.out.c)
    | some hv =>
      rw [show hostV (some hv) = .tuple #[.string (strOfNums hv), .bool true] from rfl] at HQ2
      go_upto_region 20 with (fail)
      have q0 := fun x : BW WB => LB.out.c.r.later x 0
      have q1 := fun x : BW WB => LB.out.c.r.later x 1
      simp only [List.getElem?_cons_succ, List.getElem?_cons_zero] at q0 q1
      refine region_bw (by kernel_rfl) (by kernel_rfl) ?_
      iterate 19 go_big_quiet_step (fail)
      go_big_quiet_step (exact calls_bw (HQ2.out _))
      iterate 5 go_big_quiet_step (fail)
      refine wpQuiet_nil ?_
      rintro _ ⟨y, rfl⟩
      have LC := kd (LB.out.call y.h)
      clear q0 q1 LB HQ2
      generalize y.w = wc at *
      have E := kd (show R = .ok (⟨nm, hv, true⟩, e93 + 1) from LE4.out)
      clear LE4 HC2
      have k1 := LC.out.rp.cell 1
      simp only [List.getElem?_cons_succ, List.getElem?_cons_zero] at k1
      have f1 := LC.out.rp.frozen 1
      have L11 := kd (show LM w b s a2 w.heap.size pb [.string ⟨#[]⟩, .string ⟨#[]⟩, .bool false] [.string (strOfNums nm), .string (strOfNums hv), .bool true] _ from LC.out.pset 1 (.string (strOfNums hv)))
      have k3 := L11.out.c.r.cell 1
      simp only [List.getElem?_cons_succ, List.getElem?_cons_zero] at k3
      have f3 := L11.out.c.r.frozen 1
      have L12 := kd (L11.out.cset (e93 + 1) (z := (e93 : Int) + 1) (by push_cast; rfl))
      clear LC L11
      go_wp2_with (first
        | (with_reducible refine wpList_loadR rfl 56 (.tmp 5) rfl L12.out.rp rfl Tryz.underlying56 rfl (sizePm _ _ _) ?_)
        | (with_reducible refine wpList_storeG rfl 56 (.tmp 2) (.tmp 128) rfl L12.out.rr [.string (strOfNums nm), .string (strOfNums hv), .bool true] rfl rfl (lenPm _ _ _ _ _ _) (sizePm _ _ _) (pm_one _ _ _) ?_))
      intro w9 RR G9
      have CF := kd ((L12.out.putr RR.out G9.out).c)
      go_wp2_with fail
      exact bodyPost_ret (results_cuv rfl _ _ _ w.heap.size [.string (strOfNums nm), .string (strOfNums hv), .bool true] _ rfl RR.out.range Tryz.underlying56 rfl (sizePm _ _ _)) rfl (by exact ListP.good E.out CF.out)
  case neg =>
  rw [seesB_no h4]
  replace LE3 := kd (LE3.out.trans (if_neg h4))
  clear h4
  go_wp2_with fail
  refine (TOK.out WA a2 e3 LA.out.c.r a2s HE3.out).mono ?_
  rintro e wb ⟨rfl, hc⟩
  have LB := kd (LA.out.cur hc)
  clear hc LA
  have EB := kd ((empty_beq (subL X a2 e3)).trans (VE.out a2s))
  generalize subL X a2 e3 = vl at *
  have k1 := LB.out.rp.cell 1
  simp only [List.getElem?_cons_succ, List.getElem?_cons_zero] at k1
  have f1 := LB.out.rp.frozen 1
  have LC := kd (show LM w b s e3 w.heap.size pb [.string ⟨#[]⟩, .string ⟨#[]⟩, .bool false] [.string (strOfNums nm), .string (strOfNums vl), .bool true] _ from LB.out.pset 1 (.string (strOfNums vl)))
  go_upto_region 11 with (fail)
  clear k1 f1 LB
  generalize wb.setCell ⟨pb, 1, none⟩ (.string (strOfNums vl)) = wc at *
  have k1 := LC.out.rp.cell 1
  simp only [List.getElem?_cons_succ, List.getElem?_cons_zero] at k1
  by_cases h3 : e3 = a2
  · have hq : ((strOfNums vl).toList == ([] : List UInt8)) = true := EB.out.trans (decide_eq_true h3)
    have E := kd (show R = .error (e3, 5) from (LE3.out.trans (if_pos h3)).trans (by rw [h3]))
    clear LE3 EB h3
    go_wp2_with fail
    clear k1 hq
    have q1 := fun x : BW wc => LC.out.c.r.later x 1
    simp only [List.getElem?_cons_succ, List.getElem?_cons_zero] at q1
    refine region_bw (by kernel_rfl) (by kernel_rfl) ?_
    iterate 5 go_big_quiet_step (fail)
    go_big_quiet_want
    refine quiet_same 56 (.tmp 2) (.tmp 46) rfl [.string ⟨#[]⟩, .string ⟨#[]⟩, .bool false] LC.out.rr rfl rfl (sizePm _ _ _) (pm_one _ _ _) ?_
    simp only [Act.put, List.setIfInBounds_toArray, List.set_cons_zero, List.set_cons_succ]
    go_big_quiet_on
    iterate 2 go_big_quiet_step (fail)
    refine wpQuiet_nil ?_
    rintro _ ⟨x, rfl⟩
    have LX := kd (LC.out.call x.h)
    have RR := kd LX.out.rr
    clear q1
    go_wp2_with fail
    exact bodyPost_ret (results_cuv rfl _ _ _ w.heap.size [.string ⟨#[]⟩, .string ⟨#[]⟩, .bool false] _ rfl RR.out.range Tryz.underlying56 rfl (sizePm _ _ _)) rfl (by exact ListP.bad E.out LX.out.c)
  · have hq : ((strOfNums vl).toList == ([] : List UInt8)) = false := EB.out.trans (decide_eq_false h3)
    have E := kd (LE3.out.trans (if_neg h3))
    clear LE3 EB h3
    go_wp2_with (first
      | (with_reducible refine wpList_loadR rfl 56 (.tmp 5) rfl LC.out.rp rfl Tryz.underlying56 rfl (sizePm _ _ _) ?_)
      | (with_reducible refine wpList_storeG rfl 56 (.tmp 2) (.tmp 128) rfl LC.out.rr [.string (strOfNums nm), .string (strOfNums vl), .bool true] rfl rfl (lenPm _ _ _ _ _ _) (sizePm _ _ _) (pm_one _ _ _) ?_))
    intro w9 RR G9
    have CF := kd ((LC.out.putr RR.out G9.out).c)
    go_wp2_with fail
    exact bodyPost_ret (results_cuv rfl _ _ _ w.heap.size [.string (strOfNums nm), .string (strOfNums vl), .bool true] _ rfl RR.out.range Tryz.underlying56 rfl (sizePm _ _ _)) rfl (by exact ListP.good E.out CF.out)
end Go.Proofs.YthfonniieaiocaaGreatDoor
