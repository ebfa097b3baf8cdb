/- Plain laws: parameters and heads of an address text that are written are read back; what is read is in normal form. -/
import Derived.Test.YthfonniieaiocaaGreatDoorBn
set_option linter.unusedVariables false
set_option linter.unusedSimpArgs false
namespace Go.Proofs.YthfonniieaiocaaGreatDoor
open Go.RowKit

theorem len_app (p z : List Int) : (p ++ z).length = p.length + z.length := List.length_append
theorem takeWhile_seg {f : Int → Bool} : ∀ {z r : List Int}, (∀ c ∈ z, f c = true) → (r = [] ∨ f (r.getD 0 0) = false) → (z ++ r).takeWhile f = z
  | [], [], _, _ => rfl
  | [], c :: r, _, h => by
    rcases h with h | h
    · cases h
    · rw [List.nil_append, List.takeWhile_cons, if_neg (by rw [show f c = false from h]; decide)]
  | c :: z, r, hz, hr => by
    rw [List.cons_append, List.takeWhile_cons, if_pos (hz c (by simp)), takeWhile_seg (fun d hd => hz d (by simp [hd])) hr]
theorem until_seg {p z r stops : List Int} (hz : ∀ c ∈ z, stops.contains c = false) (hr : r = [] ∨ stops.contains (r.getD 0 0) = true) : untilL (p ++ (z ++ r)) p.length stops = p.length + z.length := by
  unfold untilL skipTo
  rw [List.drop_left, takeWhile_seg (fun c hc => by rw [hz c hc]; rfl)]
  rcases hr with h | h
  · exact .inl h
  · right; rw [h]; rfl
theorem sub_seg (p z r : List Int) : subL (p ++ (z ++ r)) p.length (p.length + z.length) = z := by
  unfold subL
  rw [List.drop_left, Nat.add_sub_cancel_left, List.take_left]
theorem take_seg (p z r : List Int) : (p ++ (z ++ r)).take (p.length + z.length) = p ++ z := by
  rw [← List.append_assoc, show p.length + z.length = (p ++ z).length by simp, List.take_left]
theorem take_sub {xs : List Int} {a b : Nat} (hab : a ≤ b) : xs.take b = xs.take a ++ subL xs a b := by
  unfold subL
  rw [← List.take_add, Nat.add_sub_cancel' hab]
theorem atL_seg (p : List Int) (c : Int) (r : List Int) (d : Int) : atL (p ++ c :: r) p.length d = (c == d) := by
  unfold atL
  rw [getD_mid, decide_eq_true (by simp)]; rfl
theorem atL_end {xs : List Int} {a : Nat} {d : Int} (h : xs.length ≤ a) : atL xs a d = false := by unfold atL; rw [decide_eq_false (by omega)]; rfl
/-- A parameter or a head as it is written. -/
def fT (k : Int) (q : Pm) : List Int := escT k q.n ++ (if q.h = true then 61 :: escT k q.v else [])
theorem escT_ne (k : Int) {s : List Int} : escT k s = [] ↔ s = [] := by
  constructor
  · intro h
    have := (escT_len k s).1
    rw [h] at this
    exact List.eq_nil_of_length_eq_zero (by simpa using this)
  · rintro rfl; rfl
theorem fT_in {k : Int} {q : Pm} (h : FOK k q) : ∀ c ∈ fT k q, c = 61 ∨ escX k c = true := fun c hc => by
  unfold fT at hc
  rcases List.mem_append.1 hc with hc | hc
  · exact .inr (escT_in h.n c hc)
  · split at hc
    · rcases List.mem_cons.1 hc with rfl | hc
      · exact .inl rfl
      · exact .inr (escT_in h.v c hc)
    · cases hc
theorem escX_61 {k : Int} (hk : k = 1 ∨ k = 2) : escX k 61 = false := by rcases hk with rfl | rfl <;> decide
theorem field_read {k : Int} (hk : k = 1 ∨ k = 2) {q : Pm} (hq : FOK k q) {l : List Pm} (hr : roomL l q.n = 0) (p r : List Int) :
    fieldL (p ++ (fT k q ++ r)) l p.length (p.length + (fT k q).length) k = .ok (l ++ [q]) := by
  have hne : ∀ c ∈ escT k q.n, (c != 61) = true := fun c hc => by
    have h1 := escT_in hq.n c hc
    have h2 := escX_61 hk
    rw [bne_iff_ne]
    rintro rfl
    rw [h1] at h2; cases h2
  have heq : eqAt (p ++ (fT k q ++ r)) p.length (p.length + (fT k q).length) = p.length + (escT k q.n).length := by
    unfold eqAt
    rw [sub_seg]
    congr 1
    unfold fT
    rw [takeWhile_seg hne]
    split
    · right; rfl
    · exact .inl rfl
  have hn0 : escT k q.n ≠ [] := fun h => hq.ne ((escT_ne k).1 h)
  have hlen : 0 < (escT k q.n).length := List.length_pos_iff.2 hn0
  unfold fieldL
  dsimp only
  rw [heq]
  have e1 : (p ++ (fT k q ++ r)).take (p.length + (escT k q.n).length) = p ++ escT k q.n := by
    unfold fT
    rw [List.append_assoc]; exact take_seg p _ _
  rw [e1, wrongL_esc k p hq.n hq.cn]
  dsimp only
  rw [if_neg (by omega)]
  have e2 : subL (p ++ (fT k q ++ r)) p.length (p.length + (escT k q.n).length) = escT k q.n := by
    unfold fT
    rw [List.append_assoc]; exact sub_seg p _ _
  rw [e2, contL_esc k hq.n, hq.low]
  obtain ⟨n, v, h⟩ := q
  dsimp only at hn0 hlen
  cases h with
  | false =>
    have ek : k ≠ 2 := fun h => hq.h (.inl ⟨h, rfl⟩)
    have k1 : k = 1 := by rcases hk with h | h
                          · exact h
                          · exact absurd h ek
    have hv : v = [] := by
      have := hq.h
      rw [not_or] at this
      have h2 : ¬ (false ≠ !v.isEmpty) := fun h => this.2 ⟨k1, h⟩
      cases v with
      | nil => rfl
      | cons a b => exact absurd (by simp) h2
    subst hv
    have e3 : (fT k ⟨n, [], false⟩).length = (escT k n).length := by unfold fT; simp
    dsimp only
    rw [e3, if_neg (by omega), if_neg ek]
    dsimp only at hr ⊢
    rw [hr]
    simp
  | true =>
    have e3 : (fT k ⟨n, v, true⟩).length = (escT k n).length + 1 + (escT k v).length := by unfold fT; simp; omega
    have e4 : fT k ⟨n, v, true⟩ = escT k n ++ 61 :: escT k v := by unfold fT; simp
    have e5 : p ++ (fT k ⟨n, v, true⟩ ++ r) = (p ++ (escT k n ++ [61])) ++ (escT k v ++ r) := by rw [e4]; simp
    have e6 : (p ++ (escT k n ++ [61])).length = p.length + (escT k n).length + 1 := by simp; omega
    dsimp only
    rw [if_pos (by rw [e3]; omega), e5, e3]
    have e7 : ((p ++ (escT k n ++ [61])) ++ (escT k v ++ r)).take (p.length + ((escT k n).length + 1 + (escT k v).length)) = (p ++ (escT k n ++ [61])) ++ escT k v := by
      rw [show p.length + ((escT k n).length + 1 + (escT k v).length) = (p ++ (escT k n ++ [61])).length + (escT k v).length by rw [e6]; omega]
      exact take_seg _ _ _
    have e8 : subL ((p ++ (escT k n ++ [61])) ++ (escT k v ++ r)) (p.length + (escT k n).length + 1) (p.length + ((escT k n).length + 1 + (escT k v).length)) = escT k v := by
      rw [show p.length + ((escT k n).length + 1 + (escT k v).length) = (p ++ (escT k n ++ [61])).length + (escT k v).length by rw [e6]; omega, ← e6]
      exact sub_seg _ _ _
    rw [e7, ← e6, wrongL_esc k _ hq.v hq.cv]
    dsimp only
    rw [if_neg, e6, e8, contL_esc k hq.v, hr]
    · simp
    · rintro ⟨h1, h2⟩
      rw [e6] at h1
      have h0 : v = [] := (escT_ne k).1 (List.eq_nil_of_length_eq_zero (by omega))
      exact hq.h (.inr ⟨h2, by rw [h0]; simp⟩)
theorem stops_no {k : Int} (hk : k = 1 ∨ k = 2) {stops : List Int} (hs : stops.all (fun c => !(c == 61 || escX k c)) = true) {q : Pm} (hq : FOK k q) : ∀ c ∈ fT k q, stops.contains c = false := fun c hc => by
  rw [Bool.eq_false_iff]
  intro h
  have h1 := List.all_eq_true.1 hs c (List.contains_iff_mem.1 h)
  rcases fT_in hq c hc with rfl | h2
  · simp at h1
  · rw [h2] at h1; simp at h1
theorem pmT_eq (q : Pm) : pmT q = 59 :: fT 1 q := by unfold pmT fT; simp
theorem ps_read (stops : List Int) (hs : stops.all (fun c => !(c == 61 || escX 1 c)) = true) (h59 : stops.contains 59 = true) : ∀ (ps l : List Pm) (p r : List Int) (f : Nat), LOK 1 (l ++ ps) → (r = [] ∨ (stops.contains (r.getD 0 0) = true ∧ r.getD 0 0 ≠ 59)) → ps.length + 1 ≤ f →
    psN (p ++ (ps.flatMap pmT ++ r)) stops f p.length l = .ok (l ++ ps, p.length + (ps.flatMap pmT).length)
  | ps, l, p, r, 0, _, _, hf => absurd hf (by omega)
  | [], l, p, r, f + 1, _, hr, _ => by
    unfold psN
    rw [if_pos]
    · simp
    · rw [List.flatMap_nil, List.nil_append]
      rcases hr with rfl | ⟨_, hr⟩
      · exact atL_end (by simp)
      · cases r with
        | nil => exact atL_end (by simp)
        | cons c r => rw [atL_seg]; simpa using hr
  | q :: ps, l, p, r, f + 1, hl, hr, hf => by
    have hq : FOK 1 q := hl.f q (by simp)
    have e1 : (q :: ps).flatMap pmT ++ r = 59 :: (fT 1 q ++ (ps.flatMap pmT ++ r)) := by
      rw [List.flatMap_cons, pmT_eq]; simp
    have e2 : p ++ ((q :: ps).flatMap pmT ++ r) = (p ++ [59]) ++ (fT 1 q ++ (ps.flatMap pmT ++ r)) := by rw [e1]; simp
    have e3 : (p ++ [59]).length = p.length + 1 := by simp
    unfold psN
    rw [if_neg (by rw [e1, atL_seg]; decide), e2, ← e3]
    have e4 : untilL ((p ++ [59]) ++ (fT 1 q ++ (ps.flatMap pmT ++ r))) (p ++ [59]).length stops = (p ++ [59]).length + (fT 1 q).length := by
      refine until_seg (stops_no (.inl rfl) hs hq) ?_
      cases ps with
      | nil =>
        rw [List.flatMap_nil, List.nil_append]
        rcases hr with h | h
        · exact .inl h
        · exact .inr h.1
      | cons q2 ps => right; rw [List.flatMap_cons, pmT_eq]; exact h59
    rw [e4, field_read (.inl rfl) hq (roomL_none hl)]
    dsimp only
    have ih := ps_read stops hs h59 ps (l ++ [q]) ((p ++ [59]) ++ fT 1 q) r f (by simpa using hl) hr (by simpa using hf)
    rw [List.append_assoc (p ++ [59]), len_app (p ++ [59])] at ih
    rw [ih, List.flatMap_cons, pmT_eq]
    simp
    omega
theorem hdT_eq {q : Pm} (h : FOK 2 q) : hdT q = fT 2 q := by
  have : q.h = true := by
    cases hq : q.h with
    | true => rfl
    | false => exact absurd (.inl ⟨rfl, hq⟩) h.h
  unfold hdT fT
  rw [this]; simp
theorem hs_read : ∀ (hs l : List Pm) (p : List Int) (f : Nat) (b : Bool), LOK 2 (l ++ hs) → hs.length + 1 ≤ f → hsN (p ++ hdsT hs b) f p.length l = .ok (l ++ hs)
  | hs, l, p, 0, b, _, hf => absurd hf (by omega)
  | [], l, p, f + 1, b, _, _ => by
    unfold hsN
    rw [if_pos (by simp [hdsT])]; simp
  | q :: hs, l, p, f + 1, b, hl, hf => by
    have hq : FOK 2 q := hl.f q (by simp)
    obtain ⟨c, hc⟩ : ∃ c : Int, (if b = true then [63] else [38] : List Int) = [c] := by cases b <;> exact ⟨_, rfl⟩
    have e1 : hdsT (q :: hs) b = [c] ++ (fT 2 q ++ hdsT hs false) := by rw [show hdsT (q :: hs) b = (if b = true then [63] else [38]) ++ hdT q ++ hdsT hs false from rfl, hc, hdT_eq hq]; simp
    have e2 : p ++ hdsT (q :: hs) b = (p ++ [c]) ++ (fT 2 q ++ hdsT hs false) := by rw [e1]; simp
    have e3 : (p ++ [c]).length = p.length + 1 := by simp
    unfold hsN
    rw [if_neg (by rw [e1]; simp), e2, ← e3]
    have e4 : untilL ((p ++ [c]) ++ (fT 2 q ++ hdsT hs false)) (p ++ [c]).length [38] = (p ++ [c]).length + (fT 2 q).length := by
      refine until_seg (stops_no (.inr rfl) (by decide) hq) ?_
      cases hs with
      | nil => exact .inl rfl
      | cons q2 hs => right; unfold hdsT; rfl
    rw [e4, field_read (.inr rfl) hq (roomL_none hl)]
    dsimp only
    have ih := hs_read hs (l ++ [q]) ((p ++ [c]) ++ fT 2 q) f false (by simpa using hl) (by simpa using hf)
    rw [List.append_assoc (p ++ [c]), len_app (p ++ [c])] at ih
    rw [ih]; simp
/- What is read. -/
theorem ctl_low (c : Int) : isCtl (lowC c) = isCtl c := by
  unfold lowC
  split
  · unfold isCtl
    rw [Bool.eq_iff_iff]; simp; omega
  · rfl
theorem clean_low {l : List Int} (h : clean l = true) : clean (lowS l) = true := by
  unfold clean lowS at *
  rw [List.all_map]
  rw [List.all_eq_true] at h ⊢
  intro c hc
  have := h c hc
  simp only [Function.comp]
  rw [ctl_low]; exact this
theorem lowS_ne {l : List Int} : lowS l = [] ↔ l = [] := by unfold lowS; simp
theorem eqAt_le {xs : List Int} {a e : Nat} (hae : a ≤ e) (he : e ≤ xs.length) : a ≤ eqAt xs a e ∧ eqAt xs a e ≤ e := by
  unfold eqAt
  have h := (List.takeWhile_sublist (· != 61) (l := subL xs a e)).length_le
  rw [subL_len he] at h
  omega
theorem wrong_sub {xs : List Int} {k : Int} {a b : Nat} (hab : a ≤ b) (hb : b ≤ xs.length) : wrongL (xs.take b) k a = (wrongL (subL xs a b) k 0).map (a + ·) := by
  have hl : (xs.take a).length = a := by rw [List.length_take]; omega
  have h := wrongL_app (xs.take a) (subL xs a b) k
  rwa [hl, ← take_sub hab] at h
theorem wrong_le {xs : List Int} {k : Int} {a b i : Nat} (hb : b ≤ xs.length) (h : wrongL (xs.take b) k a = some i) : a ≤ i ∧ i < b := by
  have := wrongN_le _ _ h
  rw [List.length_take] at this
  omega
theorem roomL_at {k : Int} {l : List Pm} {q : Pm} (h : roomL l q.n = 0) (hl : LOK k l) (hq : FOK k q) : LOK k (l ++ [q]) := by
  unfold roomL at h
  split at h
  · cases h
  · rename_i h1
    split at h
    · cases h
    · have h2 := holdsL_no.1 (by simpa using h1)
      refine ⟨fun p hp => ?_, ?_, by rw [List.length_append, List.length_singleton]; omega⟩
      · rcases List.mem_append.1 hp with h | h
        · exact hl.f p h
        · rw [List.mem_singleton] at h; subst h; exact hq
      · rw [List.map_append, List.nodup_append]
        refine ⟨hl.nd, by simp, fun a ha b hb => ?_⟩
        simp at hb
        subst hb
        exact fun e => h2 (e ▸ ha)
theorem field_ok {xs : List Int} {l m : List Pm} {a e : Nat} {k : Int} (hx : By xs) (hae : a ≤ e) (he : e ≤ xs.length) (hk : k = 1 ∨ k = 2) (hl : LOK k l) (h : fieldL xs l a e k = .ok m) : LOK k m ∧ (l.length < m.length ∧ m.length ≤ l.length + 1) := by
  obtain ⟨hb1, hb2⟩ := eqAt_le hae he
  unfold fieldL at h
  dsimp only at h
  generalize eqAt xs a e = b at *
  have hz : ∀ i j, By (subL xs i j) := fun i j => hx.sub (subL_sub xs i j)
  split at h
  · cases h
  · rename_i hw
    rw [wrong_sub hb1 (by omega), Option.map_eq_none_iff] at hw
    obtain ⟨c1, c2, c3, c4⟩ := contL_ok (hz a b) hw
    split at h
    · cases h
    · rename_i hba
      have hne : contL (subL xs a b) ≠ [] := fun h => by
        have := congrArg List.length (c3.1 h)
        rw [subL_len (by omega)] at this
        simp at this; omega
      split at h
      · split at h
        · cases h
        · rename_i hbe _ hw2
          rw [wrong_sub (by omega) he, Option.map_eq_none_iff] at hw2
          obtain ⟨d1, d2, d3, d4⟩ := contL_ok (hz (b + 1) e) hw2
          split at h
          · cases h
          · rename_i hv
            split at h
            · cases h
            · rename_i hr
              injection h with h
              subst h
              refine ⟨roomL_at (by simpa using hr) hl ⟨lowS_by c1, d1, fun h => hne (lowS_ne.1 h), lowS_idem _, clean_low c2, d2, ?_⟩, by simp⟩
              rintro (⟨_, h⟩ | ⟨h, h2⟩)
              · cases h
              · apply h2
                have hv2 : contL (subL xs (b + 1) e) ≠ [] := fun h0 => by
                  have := congrArg List.length (d3.1 h0)
                  rw [subL_len he] at this
                  simp at this
                  exact hv ⟨by omega, h⟩
                cases hq : contL (subL xs (b + 1) e) with
                | nil => exact absurd hq hv2
                | cons x y => rfl
      · split at h
        · cases h
        · rename_i hk2
          split at h
          · cases h
          · rename_i hr
            injection h with h
            subst h
            refine ⟨roomL_at (by simpa using hr) hl ⟨lowS_by c1, (fun x hx => by cases hx), fun h => hne (lowS_ne.1 h), lowS_idem _, clean_low c2, rfl, ?_⟩, by simp⟩
            rintro (⟨h, _⟩ | ⟨_, h⟩)
            · exact hk2 h
            · exact h rfl
theorem field_err {xs : List Int} {l : List Pm} {a e i : Nat} {k c : Int} (hae : a ≤ e) (he : e ≤ xs.length) (h : fieldL xs l a e k = .error (i, c)) : i ≤ xs.length ∧ c ≠ 0 := by
  obtain ⟨hb1, hb2⟩ := eqAt_le hae he
  unfold fieldL at h
  dsimp only at h
  generalize eqAt xs a e = b at *
  split at h
  · rename_i hw
    injection h with h; injection h with h h2; subst h; subst h2
    have := wrong_le (by omega) hw
    exact ⟨by omega, by decide⟩
  · split at h
    · injection h with h; injection h with h h2; subst h; subst h2
      exact ⟨by omega, by decide⟩
    · split at h
      · split at h
        · rename_i hw
          injection h with h; injection h with h h2; subst h; subst h2
          have := wrong_le he hw
          exact ⟨by omega, by decide⟩
        · split at h
          · injection h with h; injection h with h h2; subst h; subst h2
            exact ⟨by omega, by decide⟩
          · split at h
            · rename_i hr
              injection h with h; injection h with h h2; subst h; subst h2
              exact ⟨by omega, hr⟩
            · cases h
      · split at h
        · injection h with h; injection h with h h2; subst h; subst h2
          exact ⟨by omega, by decide⟩
        · split at h
          · rename_i hr
            injection h with h; injection h with h h2; subst h; subst h2
            exact ⟨by omega, hr⟩
          · cases h
theorem until_le {xs : List Int} {a : Nat} {st : List Int} (h : a ≤ xs.length) : a ≤ untilL xs a st ∧ untilL xs a st ≤ xs.length := ⟨skip_ge _ _ _, skip_le h⟩
theorem atL_lt {xs : List Int} {a : Nat} {c : Int} (h : ¬ atL xs a c = false) : a < xs.length ∧ xs.getD a 0 = c := by
  have h2 : atL xs a c = true := by simpa using h
  unfold atL at h2
  simpa using h2
theorem ps_ok {xs stops : List Int} (hx : By xs) : ∀ (f a : Nat) (l : List Pm), a ≤ xs.length → LOK 1 l → match psN xs stops f a l with
    | .ok r => LOK 1 r.1 ∧ r.2 ≤ xs.length
    | .error e => e.1 ≤ xs.length ∧ e.2 ≠ 0
  | 0, a, l, ha, hl => by unfold psN; exact ⟨hl, ha⟩
  | f + 1, a, l, ha, hl => by
    unfold psN
    by_cases h0 : atL xs a 59 = false
    · rw [if_pos h0]; exact ⟨hl, ha⟩
    · rw [if_neg h0]
      have h1 := (atL_lt h0).1
      obtain ⟨u1, u2⟩ := until_le (st := stops) (show a + 1 ≤ xs.length by omega)
      cases hf : fieldL xs l (a + 1) (untilL xs (a + 1) stops) 1 with
      | error e => exact field_err u1 u2 hf
      | ok m => exact ps_ok hx f _ m u2 (field_ok hx u1 u2 (.inl rfl) hl hf).1
theorem hs_ok {xs : List Int} (hx : By xs) : ∀ (f a : Nat) (l : List Pm), a ≤ xs.length → LOK 2 l → match hsN xs f a l with
    | .ok r => LOK 2 r
    | .error e => e.1 ≤ xs.length ∧ e.2 ≠ 0
  | 0, a, l, ha, hl => by unfold hsN; exact hl
  | f + 1, a, l, ha, hl => by
    unfold hsN
    by_cases h0 : xs.length ≤ a
    · rw [if_pos h0]; exact hl
    · rw [if_neg h0]
      obtain ⟨u1, u2⟩ := until_le (st := [38]) (show a + 1 ≤ xs.length by omega)
      cases hf : fieldL xs l (a + 1) (untilL xs (a + 1) [38]) 2 with
      | error e => exact field_err u1 u2 hf
      | ok m => exact hs_ok hx f _ m u2 (field_ok hx u1 u2 (.inr rfl) hl hf).1
end Go.Proofs.YthfonniieaiocaaGreatDoor
