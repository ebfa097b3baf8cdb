/- Plain laws: parameters and heads of an address text that are written are read back; what is read is in normal form. And what stands behind it. -/
import Derived.Test.YthfonniieaiocaaGreatDoorBn
set_option linter.unusedVariables false
set_option linter.unusedSimpArgs false
namespace Go.Proofs.YthfonniieaiocaaGreatDoor
open Go.RowKit

theorem takeWhile_seg {f : Int → Bool} : ∀ {z r : List Int}, (∀ c ∈ z, f c = true) → (r = [] ∨ f (r.getD 0 0) = false) → (z ++ r).takeWhile f = z
  | [], [], _, _ => rfl
  | [], c :: r, _, h => by
    rcases h with h | h
    · cases h
    · rw [List.nil_append, List.takeWhile_cons, if_neg (by rw [show f c = false from h]; decide)]
  | c :: z, r, hz, hr => by
    rw [List.cons_append, List.takeWhile_cons, if_pos (hz c (by simp)), takeWhile_seg (fun d hd => hz d (by simp [hd])) hr]
theorem until_seg {p z r stops : List Int} (hz : ∀ c ∈ z, stops.contains c = false) (hr : r = [] ∨ stops.contains (r.getD 0 0) = true) : untilL (p ++ (z ++ r)) p.length stops = p.length + z.length := by
  unfold untilL skipTo
  rw [List.drop_left, takeWhile_seg (fun c hc => by rw [hz c hc]; rfl)]
  rcases hr with h | h
  · exact .inl h
  · right; rw [h]; rfl
theorem sub_seg (p z r : List Int) : subL (p ++ (z ++ r)) p.length (p.length + z.length) = z := by
  unfold subL
  rw [List.drop_left, Nat.add_sub_cancel_left, List.take_left]
theorem take_seg (p z r : List Int) : (p ++ (z ++ r)).take (p.length + z.length) = p ++ z := by
  rw [← List.append_assoc, show p.length + z.length = (p ++ z).length by simp, List.take_left]
theorem take_sub {xs : List Int} {a b : Nat} (hab : a ≤ b) : xs.take b = xs.take a ++ subL xs a b := by
  unfold subL
  rw [← List.take_add, Nat.add_sub_cancel' hab]
theorem atL_seg (p : List Int) (c : Int) (r : List Int) (d : Int) : atL (p ++ c :: r) p.length d = (c == d) := by
  unfold atL
  rw [getD_mid, decide_eq_true (by simp)]; rfl
theorem atL_end {xs : List Int} {a : Nat} {d : Int} (h : xs.length ≤ a) : atL xs a d = false := by unfold atL; rw [decide_eq_false (by omega)]; rfl
theorem ctl_low (c : Int) : isCtl (lowC c) = isCtl c := by
  unfold lowC
  split
  · unfold isCtl
    rw [Bool.eq_iff_iff]; simp; omega
  · rfl
theorem clean_low {l : List Int} (h : clean l = true) : clean (lowS l) = true := by
  unfold clean lowS at *
  rw [List.all_map]
  rw [List.all_eq_true] at h ⊢
  intro c hc
  have := h c hc
  simp only [Function.comp]
  rw [ctl_low]; exact this
theorem lowS_ne {l : List Int} : lowS l = [] ↔ l = [] := by unfold lowS; simp
theorem eqAt_le {xs : List Int} {a e : Nat} (hae : a ≤ e) (he : e ≤ xs.length) : a ≤ eqAt xs a e ∧ eqAt xs a e ≤ e := by
  unfold eqAt
  have h := (List.takeWhile_sublist (· != 61) (l := subL xs a e)).length_le
  rw [subL_len he] at h
  omega
theorem wrong_sub {xs : List Int} {k : Int} {a b : Nat} (hab : a ≤ b) (hb : b ≤ xs.length) : wrongL (xs.take b) k a = (wrongL (subL xs a b) k 0).map (a + ·) := by
  have hl : (xs.take a).length = a := by rw [List.length_take]; omega
  have h := wrongL_app (xs.take a) (subL xs a b) k
  rwa [hl, ← take_sub hab] at h
theorem wrong_le {xs : List Int} {k : Int} {a b i : Nat} (hb : b ≤ xs.length) (h : wrongL (xs.take b) k a = some i) : a ≤ i ∧ i < b := by
  have := wrongN_le _ _ h
  rw [List.length_take] at this
  omega
theorem roomL_at {k : Int} {l : List Pm} {q : Pm} (h : roomL l q.n = 0) (hl : LOK k l) (hq : FOK k q) : LOK k (l ++ [q]) := by
  unfold roomL at h
  split at h
  · cases h
  · rename_i h1
    split at h
    · cases h
    · have h2 := holdsL_no.1 (by simpa using h1)
      refine ⟨fun p hp => ?_, ?_, by rw [List.length_append, List.length_singleton]; omega⟩
      · rcases List.mem_append.1 hp with h | h
        · exact hl.f p h
        · rw [List.mem_singleton] at h; subst h; exact hq
      · rw [List.map_append, List.nodup_append]
        refine ⟨hl.nd, by simp, fun a ha b hb => ?_⟩
        simp at hb
        subst hb
        exact fun e => h2 (e ▸ ha)
theorem field_ok {xs : List Int} {l m : List Pm} {a e : Nat} {k : Int} (hx : By xs) (hae : a ≤ e) (he : e ≤ xs.length) (hk : k = 1 ∨ k = 2) (hl : LOK k l) (h : fieldL xs l a e k = .ok m) : LOK k m ∧ (l.length < m.length ∧ m.length ≤ l.length + 1) := by
  obtain ⟨hb1, hb2⟩ := eqAt_le hae he
  unfold fieldL at h
  dsimp only at h
  generalize eqAt xs a e = b at *
  have hz : ∀ i j, By (subL xs i j) := fun i j => hx.sub (subL_sub xs i j)
  split at h
  · cases h
  · rename_i hw
    rw [wrong_sub hb1 (by omega), Option.map_eq_none_iff] at hw
    obtain ⟨c1, c2, c3, c4⟩ := contL_ok (hz a b) hw
    split at h
    · cases h
    · rename_i hba
      have hne : contL (subL xs a b) ≠ [] := fun h => by
        have := congrArg List.length (c3.1 h)
        rw [subL_len (by omega)] at this
        simp at this; omega
      split at h
      · split at h
        · cases h
        · rename_i hbe _ hw2
          rw [wrong_sub (by omega) he, Option.map_eq_none_iff] at hw2
          obtain ⟨d1, d2, d3, d4⟩ := contL_ok (hz (b + 1) e) hw2
          split at h
          · cases h
          · rename_i hv
            split at h
            · cases h
            · rename_i hr
              injection h with h
              subst h
              refine ⟨roomL_at (by simpa using hr) hl ⟨lowS_by c1, d1, fun h => hne (lowS_ne.1 h), lowS_idem _, clean_low c2, d2, ?_⟩, by simp⟩
              rintro (⟨_, h⟩ | ⟨h, h2⟩)
              · cases h
              · apply h2
                have hv2 : contL (subL xs (b + 1) e) ≠ [] := fun h0 => by
                  have := congrArg List.length (d3.1 h0)
                  rw [subL_len he] at this
                  simp at this
                  exact hv ⟨by omega, h⟩
                cases hq : contL (subL xs (b + 1) e) with
                | nil => exact absurd hq hv2
                | cons x y => rfl
      · split at h
        · cases h
        · rename_i hk2
          split at h
          · cases h
          · rename_i hr
            injection h with h
            subst h
            refine ⟨roomL_at (by simpa using hr) hl ⟨lowS_by c1, (fun x hx => by cases hx), fun h => hne (lowS_ne.1 h), lowS_idem _, clean_low c2, rfl, ?_⟩, by simp⟩
            rintro (⟨h, _⟩ | ⟨_, h⟩)
            · exact hk2 h
            · exact h rfl
theorem field_err {xs : List Int} {l : List Pm} {a e i : Nat} {k c : Int} (hae : a ≤ e) (he : e ≤ xs.length) (h : fieldL xs l a e k = .error (i, c)) : i ≤ xs.length ∧ c ≠ 0 := by
  obtain ⟨hb1, hb2⟩ := eqAt_le hae he
  unfold fieldL at h
  dsimp only at h
  generalize eqAt xs a e = b at *
  split at h
  · rename_i hw
    injection h with h; injection h with h h2; subst h; subst h2
    have := wrong_le (by omega) hw
    exact ⟨by omega, by decide⟩
  · split at h
    · injection h with h; injection h with h h2; subst h; subst h2
      exact ⟨by omega, by decide⟩
    · split at h
      · split at h
        · rename_i hw
          injection h with h; injection h with h h2; subst h; subst h2
          have := wrong_le he hw
          exact ⟨by omega, by decide⟩
        · split at h
          · injection h with h; injection h with h h2; subst h; subst h2
            exact ⟨by omega, by decide⟩
          · split at h
            · rename_i hr
              injection h with h; injection h with h h2; subst h; subst h2
              exact ⟨by omega, hr⟩
            · cases h
      · split at h
        · injection h with h; injection h with h h2; subst h; subst h2
          exact ⟨by omega, by decide⟩
        · split at h
          · rename_i hr
            injection h with h; injection h with h h2; subst h; subst h2
            exact ⟨by omega, hr⟩
          · cases h
theorem until_le {xs : List Int} {a : Nat} {st : List Int} (h : a ≤ xs.length) : a ≤ untilL xs a st ∧ untilL xs a st ≤ xs.length := ⟨skip_ge _ _ _, skip_le h⟩
theorem atL_lt {xs : List Int} {a : Nat} {c : Int} (h : ¬ atL xs a c = false) : a < xs.length ∧ xs.getD a 0 = c := by
  have h2 : atL xs a c = true := by simpa using h
  unfold atL at h2
  simpa using h2
theorem ps_ok {xs stops : List Int} (hx : By xs) : ∀ (f a : Nat) (l : List Pm), a ≤ xs.length → LOK 1 l → match psN xs stops f a l with
    | .ok r => LOK 1 r.1 ∧ r.2 ≤ xs.length
    | .error e => e.1 ≤ xs.length ∧ e.2 ≠ 0
  | 0, a, l, ha, hl => by unfold psN; exact ⟨hl, ha⟩
  | f + 1, a, l, ha, hl => by
    unfold psN
    by_cases h0 : atL xs a 59 = false
    · rw [if_pos h0]; exact ⟨hl, ha⟩
    · rw [if_neg h0]
      have h1 := (atL_lt h0).1
      obtain ⟨u1, u2⟩ := until_le (st := stops) (show a + 1 ≤ xs.length by omega)
      cases hf : fieldL xs l (a + 1) (untilL xs (a + 1) stops) 1 with
      | error e => exact field_err u1 u2 hf
      | ok m => exact ps_ok hx f _ m u2 (field_ok hx u1 u2 (.inl rfl) hl hf).1
theorem hs_ok {xs : List Int} (hx : By xs) : ∀ (f a : Nat) (l : List Pm), a ≤ xs.length → LOK 2 l → match hsN xs f a l with
    | .ok r => LOK 2 r
    | .error e => e.1 ≤ xs.length ∧ e.2 ≠ 0
  | 0, a, l, ha, hl => by unfold hsN; exact hl
  | f + 1, a, l, ha, hl => by
    unfold hsN
    by_cases h0 : xs.length ≤ a
    · rw [if_pos h0]; exact hl
    · rw [if_neg h0]
      obtain ⟨u1, u2⟩ := until_le (st := [38]) (show a + 1 ≤ xs.length by omega)
      cases hf : fieldL xs l (a + 1) (untilL xs (a + 1) [38]) 2 with
      | error e => exact field_err u1 u2 hf
      | ok m => exact hs_ok hx f _ m u2 (field_ok hx u1 u2 (.inr rfl) hl hf).1

theorem cut_app (sep : Int) : ∀ {p : List Int} (r : List Int), sep ∉ p → cutL sep (p ++ sep :: r) = p :: cutL sep r
  | [], r, _ => cutL_hit sep r
  | c :: p, r, h => by
    have h1 : c ≠ sep := fun e => h (by simp [e])
    rw [List.cons_append, cutL_no sep c _ h1, cut_app sep r (fun hm => h (by simp [hm]))]; rfl
theorem cut_no (sep : Int) : ∀ {p : List Int}, sep ∉ p → cutL sep p = [p]
  | [], _ => rfl
  | c :: p, h => by
    have h1 : c ≠ sep := fun e => h (by simp [e])
    rw [cutL_no sep c _ h1, cut_no sep (fun hm => h (by simp [hm]))]; rfl
theorem cut_join (sep : Int) : ∀ {l : List (List Int)}, l ≠ [] → (∀ p ∈ l, sep ∉ p) → cutL sep (joinL [sep] l) = l
  | [], h, _ => absurd rfl h
  | [p], _, h => by rw [joinL_one, cut_no sep (h p (by simp))]
  | p :: q :: l, _, h => by
    rw [joinL_cons, List.singleton_append, cut_app sep _ (h p (by simp)), cut_join sep (by simp) (fun t ht => h t (by simp [List.mem_cons.1 ht]))]
theorem cut_mem (sep : Int) : ∀ {s : List Int} {c : Int}, c ∈ s → c = sep ∨ ∃ p ∈ cutL sep s, c ∈ p
  | [], _, h => by cases h
  | d :: s, c, h => by
    by_cases hd : d = sep
    · subst hd
      rcases List.mem_cons.1 h with h | h
      · exact .inl h
      · rcases cut_mem d h with h | ⟨p, hp, h⟩
        · exact .inl h
        · exact .inr ⟨p, by rw [cutL_hit]; simp [hp], h⟩
    · rw [cutL_no sep d s hd]
      cases hq : cutL sep s with
      | nil =>
        rcases List.mem_cons.1 h with h | h
        · exact .inr ⟨[d], by simp [glue], by simp [h]⟩
        · rcases cut_mem sep h with h | ⟨p, hp, h⟩
          · exact .inl h
          · rw [hq] at hp; cases hp
      | cons q qs =>
        rcases List.mem_cons.1 h with h | h
        · exact .inr ⟨d :: q, by simp [glue], by simp [h]⟩
        · rcases cut_mem sep h with h | ⟨p, hp, h⟩
          · exact .inl h
          · rw [hq] at hp
            rcases List.mem_cons.1 hp with rfl | hp
            · exact .inr ⟨d :: p, by simp [glue], by simp [h]⟩
            · exact .inr ⟨p, by simp [glue, hp], h⟩
theorem cut_low (s : List Int) : cutL 46 (lowS s) = (cutL 46 s).map lowS := by
  induction s with
  | nil => rfl
  | cons c s ih =>
    have hl : lowS (c :: s) = lowC c :: lowS s := rfl
    by_cases h : c = 46
    · subst h
      rw [hl, show lowC 46 = 46 from rfl, cutL_hit, cutL_hit, ih]; rfl
    · have h2 : lowC c ≠ 46 := by unfold lowC; split <;> omega
      rw [hl, cutL_no 46 _ _ h2, cutL_no 46 _ _ h, ih]
      cases cutL 46 s <;> rfl
/- Groups. -/
theorem hexV_low' (c : Int) : hexV (lowC c) = hexV c := by
  unfold lowC
  split
  · by_cases h : c ≤ 70
    · unfold hexV; rw [if_neg (by omega), if_pos (by omega), if_neg (by omega), if_neg (by omega), if_pos (by omega)]; omega
    · unfold hexV; rw [if_neg (by omega), if_neg (by omega), if_neg (by omega), if_neg (by omega), if_neg (by omega), if_neg (by omega)]
  · rfl
theorem hex_chars {c : Int} (h : 0 ≤ hexV c) : (48 ≤ c ∧ c ≤ 57) ∨ (97 ≤ c ∧ c ≤ 102) ∨ (65 ≤ c ∧ c ≤ 70) := by
  unfold hexV at h
  split at h
  · exact .inl (by assumption)
  · split at h
    · exact .inr (.inl (by assumption))
    · split at h
      · exact .inr (.inr (by assumption))
      · omega
theorem grpOK_iff {g : List Int} : grpOK g = true ↔ (1 ≤ g.length ∧ g.length ≤ 4) ∧ ∀ c ∈ g, 0 ≤ hexV c := by
  unfold grpOK
  rw [Bool.and_eq_true, Bool.and_eq_true, decide_eq_true_eq, decide_eq_true_eq, List.all_eq_true]
  simp
theorem grpN_ok {g : List Int} (h : grpOK g = true) : grpOK (grpN g) = true := by
  obtain ⟨⟨h1, h2⟩, h3⟩ := grpOK_iff.1 h
  refine grpOK_iff.2 ?_
  unfold grpN
  dsimp only
  split
  · exact ⟨by decide, by decide⟩
  · rename_i hne
    have hs := List.dropWhile_sublist (· == 48) (l := lowS g)
    refine ⟨⟨List.length_pos_iff.2 hne, ?_⟩, fun c hc => ?_⟩
    · have := hs.length_le; rw [lowS_len] at this; omega
    · obtain ⟨d, hd, rfl⟩ := List.mem_map.1 (hs.subset hc)
      rw [hexV_low']; exact h3 d hd
theorem dropWhile_fix {p : Int → Bool} : ∀ l : List Int, (l.dropWhile p).dropWhile p = l.dropWhile p
  | [] => rfl
  | c :: l => by
    rw [List.dropWhile_cons]
    split
    · exact dropWhile_fix l
    · rename_i h
      rw [List.dropWhile_cons, if_neg h]
theorem low_drop (l : List Int) : lowS ((lowS l).dropWhile (· == 48)) = (lowS l).dropWhile (· == 48) := by
  have hs := List.dropWhile_sublist (· == 48) (l := lowS l)
  unfold lowS at hs ⊢
  conv => rhs; rw [← List.map_id (List.dropWhile (· == 48) (l.map lowC))]
  refine List.map_congr_left fun c hc => ?_
  obtain ⟨d, _, rfl⟩ := List.mem_map.1 (hs.subset hc)
  exact lowC_idem d
theorem grpN_idem (g : List Int) : grpN (grpN g) = grpN g := by
  by_cases h : (lowS g).dropWhile (· == 48) = []
  · have e : grpN g = [48] := by unfold grpN; dsimp only; rw [if_pos h]
    rw [e]; rfl
  · have e : grpN g = (lowS g).dropWhile (· == 48) := by unfold grpN; dsimp only; rw [if_neg h]
    rw [e]
    unfold grpN
    dsimp only
    rw [low_drop, dropWhile_fix, if_neg h]
def GrpOK (l : List (List Int)) : Prop := ∀ g ∈ l, grpOK g = true ∧ grpN g = g
theorem grp_colon {g : List Int} (h : grpOK g = true) : (58 : Int) ∉ g := fun hm => by
  have := hex_chars ((grpOK_iff.1 h).2 58 hm); omega
theorem grpL_norm {s : List Int} {l : List (List Int)} (h : grpL s = some l) : GrpOK l ∧ l ≠ [] := by
  unfold grpL at h
  split at h
  · rename_i ha
    injection h with h
    subst h
    refine ⟨fun g hg => ?_, ?_⟩
    · obtain ⟨q, hq, rfl⟩ := List.mem_map.1 hg
      exact ⟨grpN_ok (List.all_eq_true.1 ha q hq), grpN_idem q⟩
    · intro he
      have := congrArg List.length he
      have hp : 1 ≤ (cutL 58 s).length := by
        cases s with
        | nil => simp [cutL]
        | cons c s =>
          by_cases h : c = 58
          · subst h; rw [cutL_hit]; simp
          · rw [cutL_no 58 c s h]; cases cutL 58 s <;> simp [glue]
      simp at this
      rw [this] at hp; simp at hp
  · cases h
theorem grpL_join {l : List (List Int)} (h : GrpOK l) (hne : l ≠ []) : grpL (joinL [58] l) = some l := by
  unfold grpL
  rw [cut_join 58 hne (fun g hg => grp_colon (h g hg).1), if_pos (List.all_eq_true.2 fun g hg => (h g hg).1)]
  congr 1
  exact (List.map_congr_left fun g hg => (h g hg).2).trans (List.map_id _)
theorem sideL_norm {s : List Int} {l : List (List Int)} (h : sideL s = some l) : GrpOK l := by
  unfold sideL at h
  split at h
  · injection h with h; subst h; exact fun g hg => by cases hg
  · exact (grpL_norm h).1
theorem join_ne {l : List (List Int)} (h : GrpOK l) (hne : l ≠ []) : joinL [58] l ≠ [] := fun he => by
  have h2 := grpL_join h hne
  rw [he] at h2
  have h3 : grpL [] = none := rfl
  rw [h3] at h2; cases h2
theorem sideL_join {l : List (List Int)} (h : GrpOK l) : sideL (joinL [58] l) = some l := by
  unfold sideL
  by_cases hne : l = []
  · subst hne; rfl
  · rw [if_neg (join_ne h hne), grpL_join h hne]
theorem dbl_one {d : Int} (r : List Int) (h : d ≠ 58) : dblL (58 :: d :: r) = (dblL (d :: r)).map fun p => (58 :: p.1, p.2) := by rw [dblL, if_neg (fun e => h e.2)]
theorem grp_head {g : List Int} (h : grpOK g = true) (r : List Int) : ∃ d t, g ++ r = d :: t ∧ d ≠ 58 := by
  cases g with
  | nil => have := (grpOK_iff.1 h).1.1; simp at this
  | cons d t => exact ⟨d, t ++ r, rfl, fun e => grp_colon h (by simp [e])⟩
theorem grp_ne {g : List Int} (h : grpOK g = true) : g ≠ [] := fun e => by
  subst e; have := (grpOK_iff.1 h).1.1; simp at this
theorem dbl_grp (r : List Int) : ∀ (g : List Int), (58 : Int) ∉ g → g ≠ [] → dblL (g ++ r) = (dblL r).map fun p => (g ++ p.1, p.2)
  | [], _, h => absurd rfl h
  | [c], hc, _ => by
    have hc58 : c ≠ 58 := fun e => hc (by simp [e])
    rw [List.singleton_append]
    cases r with
    | nil => rfl
    | cons d r => rw [dblL, if_neg (fun h => hc58 h.1)]; rfl
  | c :: d :: g, hc, _ => by
    have hc58 : c ≠ 58 := fun e => hc (by simp [e])
    have ih := dbl_grp r (d :: g) (fun hm => hc (by simp [List.mem_cons.1 hm])) (by simp)
    rw [List.cons_append] at ih
    rw [List.cons_append, List.cons_append, dblL, if_neg (fun h => hc58 h.1), ih, Option.map_map]
    rfl
theorem join_head {g : List Int} {l : List (List Int)} (h : grpOK g = true) (r : List Int) : ∃ d t, joinL [58] (g :: l) ++ r = d :: t ∧ d ≠ 58 := by
  cases l with
  | nil => rw [joinL_one]; exact grp_head h r
  | cons x y => rw [joinL_cons, List.append_assoc]; exact grp_head h _
theorem dbl_joinX (r : List Int) (P : Option (List Int × List Int)) : ∀ {l : List (List Int)}, GrpOK l → l ≠ [] → dblL r = P → dblL (joinL [58] l ++ r) = P.map fun p => (joinL [58] l ++ p.1, p.2)
  | [], _, h, _ => absurd rfl h
  | [g], h, _, hr => by
    have hg := (h g (by simp)).1
    rw [joinL_one, dbl_grp r g (grp_colon hg) (grp_ne hg), hr]
  | g :: g2 :: l, h, _, hr => by
    have hg := (h g (by simp)).1
    have hl : GrpOK (g2 :: l) := fun x hx => h x (by simp [List.mem_cons.1 hx])
    have ih := dbl_joinX r P hl (by simp) hr
    obtain ⟨d, t, e, hd⟩ := join_head (l := l) (h g2 (by simp)).1 r
    rw [joinL_cons, List.append_assoc, List.append_assoc, List.singleton_append, dbl_grp _ g (grp_colon hg) (grp_ne hg), e, dbl_one t hd, ← e, ih, Option.map_map, Option.map_map]
    congr 1
    funext p
    simp
theorem dbl_join0 {l : List (List Int)} (h : GrpOK l) (hne : l ≠ []) : dblL (joinL [58] l) = none := by
  have := dbl_joinX [] none h hne rfl
  rwa [List.append_nil] at this
theorem dbl_join2 {l : List (List Int)} (h : GrpOK l) (y : List Int) : dblL (joinL [58] l ++ ([58, 58] ++ y)) = some (joinL [58] l, y) := by
  have e : dblL ([58, 58] ++ y) = some ([], y) := by
    show dblL (58 :: 58 :: y) = _
    unfold dblL; rfl
  by_cases hne : l = []
  · subst hne; rw [joinL_nil, List.nil_append]; exact e
  · rw [dbl_joinX _ _ h hne e]; simp
theorem join_len4 {l : List (List Int)} (h : GrpOK l) : (joinL [58] l).length ≤ 5 * l.length - 1 := by
  cases l with
  | nil => simp [joinL_nil]
  | cons g l =>
    induction l generalizing g with
    | nil => rw [joinL_one]; have := (grpOK_iff.1 (h g (by simp)).1).1.2; simp; omega
    | cons g2 l ih =>
      have h1 := (grpOK_iff.1 (h g (by simp)).1).1.2
      have h2 := ih g2 (fun x hx => h x (by simp [List.mem_cons.1 hx]))
      rw [joinL_cons, List.length_append, List.length_append]
      simp at h2 ⊢
      omega
theorem groups_idem {s g : List Int} (h : groupsL s = some g) : groupsL g = some g := by
  unfold groupsL at h
  split at h
  · cases h
  · split at h
    · split at h
      · rename_i l hg
        split at h
        · rename_i h8
          injection h with h
          subst h
          obtain ⟨h1, h2⟩ := grpL_norm hg
          have h3 := join_len4 h1
          unfold groupsL
          rw [if_neg (by omega), dbl_join0 h1 h2]
          dsimp only
          rw [grpL_join h1 h2]
          dsimp only
          rw [if_pos h8]
        · cases h
      · cases h
    · split at h
      · rename_i x y hx hy
        split at h
        · cases h
        · rename_i h7
          injection h with h
          subst h
          have hx1 := sideL_norm hx
          have hy1 := sideL_norm hy
          have h3 := join_len4 hx1
          have h4 := join_len4 hy1
          unfold groupsL
          rw [if_neg (by simp only [List.length_append, List.length_cons, List.length_nil]; omega), List.append_assoc, dbl_join2 hx1]
          dsimp only
          rw [sideL_join hx1, sideL_join hy1]
          dsimp only
          rw [if_neg h7, List.append_assoc]
      · cases h
theorem join_chars {l : List (List Int)} (h : GrpOK l) : ∀ c ∈ joinL [58] l, c = 58 ∨ 0 ≤ hexV c := by
  induction l with
  | nil => intro c hc; rw [joinL_nil] at hc; cases hc
  | cons g l ih =>
    intro c hc
    have hg := (grpOK_iff.1 (h g (by simp)).1).2
    cases l with
    | nil => rw [joinL_one] at hc; exact .inr (hg c hc)
    | cons g2 l =>
      rw [joinL_cons] at hc
      rcases List.mem_append.1 hc with hc | hc
      · exact .inr (hg c hc)
      · rcases List.mem_append.1 hc with hc | hc
        · simp at hc; exact .inl hc
        · exact ih (fun x hx => h x (by simp [List.mem_cons.1 hx])) c hc
theorem groups_chars {s g : List Int} (h : groupsL s = some g) : ∀ c ∈ g, c = 58 ∨ 0 ≤ hexV c := by
  unfold groupsL at h
  split at h
  · cases h
  · split at h
    · split at h
      · rename_i l hg
        split at h
        · injection h with h
          subst h
          exact join_chars (grpL_norm hg).1
        · cases h
      · cases h
    · split at h
      · rename_i x y hx hy
        split at h
        · cases h
        · injection h with h
          subst h
          intro c hc
          rcases List.mem_append.1 hc with hc | hc
          · rcases List.mem_append.1 hc with hc | hc
            · exact join_chars (sideL_norm hx) c hc
            · simp at hc; exact .inl hc
          · exact join_chars (sideL_norm hy) c hc
      · cases h
/- Names. -/
theorem let_low (c : Int) : isLet (lowC c) = isLet c := by
  unfold lowC
  split
  · unfold isLet; rw [Bool.eq_iff_iff]; simp; omega
  · rfl
theorem dig_low (c : Int) : isDig (lowC c) = isDig c := by
  unfold lowC
  split
  · unfold isDig; rw [Bool.eq_iff_iff]; simp; omega
  · rfl
theorem dash_low (c : Int) : (lowC c == 45) = (c == 45) := by
  unfold lowC
  split
  · rw [Bool.eq_iff_iff]; simp; omega
  · rfl
theorem labC_low (c : Int) : labC (lowC c) = labC c := by unfold labC; rw [let_low, dig_low, dash_low]
theorem getD_low {l : List Int} (i : Nat) (h : i < l.length) : (lowS l).getD i 0 = lowC (l.getD i 0) := by
  unfold lowS
  rw [List.getD_eq_getElem?_getD, List.getElem?_map, List.getD_eq_getElem?_getD, List.getElem?_eq_getElem h]; rfl
theorem labOK_low (p : List Int) : labOK (lowS p) = labOK p := by
  unfold labOK
  rw [lowS_len]
  by_cases h : 1 ≤ p.length
  · rw [getD_low 0 (by omega), getD_low _ (by omega)]
    have ha : (lowS p).all labC = p.all labC := by unfold lowS; rw [List.all_map]; congr 1; funext c; exact labC_low c
    have hb : ∀ c : Int, (lowC c != 45) = (c != 45) := fun c => by unfold bne; rw [dash_low]
    rw [ha, hb, hb]
  · rw [decide_eq_false h]; rfl
theorem wordL_low (p : List Int) : wordL (lowS p) = wordL p := by
  unfold wordL lowS
  rw [List.any_map]; congr 1; funext c
  show (!isDig (lowC c)) = !isDig c
  rw [dig_low]
theorem namedL_low (s : List Int) : namedL (lowS s) = namedL s := by
  unfold namedL
  rw [lowS_len, cut_low, List.all_map, List.any_map]
  congr 2
  · congr 1; funext p; exact labOK_low p
  · congr 1; funext p; exact wordL_low p
theorem labC_is {c : Int} (h : labC c = true) : isLet c = true ∨ isDig c = true ∨ c = 45 := by
  unfold labC at h
  rw [Bool.or_eq_true, Bool.or_eq_true, beq_iff_eq] at h
  exact h
def hostC (c : Int) : Bool := labC c || c == 46
theorem named_chars {s : List Int} (h : namedL s = true) : ∀ c ∈ s, hostC c = true := fun c hc => by
  unfold namedL at h
  rw [Bool.and_eq_true, Bool.and_eq_true (a := (cutL 46 s).all labOK)] at h
  unfold hostC
  rcases cut_mem 46 hc with rfl | ⟨p, hp, hc⟩
  · decide
  · have h2 := List.all_eq_true.1 h.2.1 p hp
    unfold labOK at h2
    rw [Bool.and_eq_true, Bool.and_eq_true, Bool.and_eq_true] at h2
    rw [List.all_eq_true.1 h2.2.2 c hc]; rfl
theorem numbers_chars {s : List Int} (h : numbersL s = true) : ∀ c ∈ s, hostC c = true := fun c hc => by
  unfold numbersL at h
  rw [Bool.and_eq_true, Bool.and_eq_true] at h
  unfold hostC labC
  rcases cut_mem 46 hc with rfl | ⟨p, hp, hc⟩
  · decide
  · have h2 := List.all_eq_true.1 h.2.1 p hp
    unfold numOK at h2
    rw [Bool.and_eq_true, Bool.and_eq_true] at h2
    rw [List.all_eq_true.1 h2.1.1 c hc]; simp
theorem hostC_range {c : Int} (h : hostC c = true) : c ≠ 58 ∧ c ≠ 59 ∧ c ≠ 63 ∧ c ≠ 64 ∧ c ≠ 91 ∧ c ≠ 93 ∧ 33 ≤ c ∧ c ≤ 126 ∧ c ≠ 37 ∧ c ≠ 38 ∧ c ≠ 60 ∧ c ≠ 62 := by
  unfold hostC at h
  rw [Bool.or_eq_true, beq_iff_eq] at h
  rcases h with h | h
  · rcases labC_is h with h | h | h
    · unfold isLet at h; simp at h; omega
    · unfold isDig at h; simp at h; omega
    · omega
  · omega
inductive HostF (h : List Int) : Prop
  | six (g : List Int) (e : h = 91 :: (g ++ [93])) (c : ∀ x ∈ g, x = 58 ∨ 0 ≤ hexV x)
  | plain (c : ∀ x ∈ h, hostC x = true) (ne : h ≠ [])
theorem numbers_ne {s : List Int} (h : numbersL s = true) : s ≠ [] := by rintro rfl; exact absurd h (by decide)
theorem named_ne {s : List Int} (h : namedL s = true) : s ≠ [] := by rintro rfl; exact absurd h (by decide)
theorem host_form {s h : List Int} (hh : hostL s = some h) : HostF h := by
  unfold hostL at hh
  split at hh
  · rw [Option.map_eq_some_iff] at hh
    obtain ⟨g, hg, e⟩ := hh
    exact .six g (by rw [← e]; simp) (groups_chars hg)
  · split at hh
    · rename_i hn
      injection hh with hh
      subst hh
      exact .plain (numbers_chars hn) (numbers_ne hn)
    · split at hh
      · rename_i hn
        injection hh with hh
        subst hh
        refine .plain (named_chars (by rw [namedL_low]; exact hn)) (fun h => named_ne hn (lowS_ne.1 h))
      · cases hh
theorem host_idem {s h : List Int} (hh : hostL s = some h) : hostL h = some h := by
  have hF := host_form hh
  unfold hostL at hh
  split at hh
  · rw [Option.map_eq_some_iff] at hh
    obtain ⟨g, hg, e⟩ := hh
    subst e
    have e0 : ([91] ++ g ++ [93] : List Int).length = g.length + 2 := by simp
    have e1 : ([91] ++ g ++ [93] : List Int).getD ([91] ++ g ++ [93] : List Int).length.pred 0 = 93 := by
      rw [e0, show (g.length + 2).pred = ([91] ++ g : List Int).length by simp]
      exact getD_mid _ _ _
    have e2 : subL ([91] ++ g ++ [93]) 1 (([91] ++ g ++ [93] : List Int).length - 1) = g := by
      have := sub_seg [91] g [93]
      rw [e0]
      rw [List.append_assoc]
      rw [show g.length + 2 - 1 = ([91] : List Int).length + g.length by simp; omega]
      exact this
    unfold hostL
    rw [if_pos ⟨by rw [e0]; omega, rfl, e1⟩, e2, groups_idem hg]; rfl
  · rename_i h1
    split at hh
    · rename_i hn
      injection hh with hh
      subst hh
      unfold hostL
      rw [if_neg h1, if_pos hn]
    · split at hh
      · rename_i hn
        injection hh with hh
        subst hh
        have hne := named_ne hn
        unfold hostL
        rw [if_neg, namedL_low, hn]
        · split
          · rfl
          · rw [if_pos rfl, lowS_idem]
        · rintro ⟨_, h2, _⟩
          cases s with
          | nil => exact hne rfl
          | cons c s =>
            have h3 : hostC (lowC c) = true := by
              have := named_chars (s := lowS (c :: s)) (by rw [namedL_low]; exact hn) (lowC c) (by simp [lowS])
              exact this
            have h4 : lowC c = 91 := h2
            exact (hostC_range h3).2.2.2.2.1 h4
      · cases hh
theorem host_by {s h : List Int} (hh : hostL s = some h) (hs : By s) : By h := by
  rcases host_form hh with ⟨g, e, c⟩ | ⟨c, _⟩
  · subst e
    intro x hx
    rcases List.mem_cons.1 hx with rfl | hx
    · omega
    · rcases List.mem_append.1 hx with hx | hx
      · rcases c x hx with rfl | h
        · omega
        · have := hex_chars h; omega
      · simp at hx; omega
  · intro x hx
    have := hostC_range (c x hx); omega
end Go.Proofs.YthfonniieaiocaaGreatDoor
