/- Plain laws: equal addresses; insertion from behind; a content read in place. Plain law: parameters and addresses that are printed are read as the same. -/
import Derived.Test.YthfonniieaiocaaGreatDoorVa
import Derived.Test.YthfonniieaiocaaGreatDoorBr
set_option linter.unusedVariables false
set_option linter.unusedSimpArgs false
namespace Go.Proofs.YthfonniieaiocaaGreatDoor
open Go.RowKit

def pmK (p : Pm) : List Int × List Int × Bool := (p.n, p.v, p.h)
theorem pmK_inj {l m : List Pm} (h : l.map pmK = m.map pmK) : l = m := by
  induction l generalizing m with
  | nil => cases m with
    | nil => rfl
    | cons _ _ => cases h
  | cons p l ih =>
    cases m with
    | nil => cases h
    | cons q m =>
      rw [List.map_cons, List.map_cons] at h
      injection h with h1 h2
      obtain ⟨a, b, c⟩ := p
      obtain ⟨d, e, f⟩ := q
      unfold pmK at h1
      injection h1 with h1 h3
      injection h3 with h3 h4
      dsimp only at h1 h3 h4
      rw [ih h2, h1, h3, h4]
def samePs (l m : List Pm) : Bool := l.map pmK == m.map pmK
theorem samePs_iff {l m : List Pm} : samePs l m = true ↔ l = m := by
  unfold samePs
  rw [beq_iff_eq]
  exact ⟨pmK_inj, fun h => by rw [h]⟩
def sameU (x y : Uri) : Bool := (((((x.sc == y.sc) && (x.us == y.us)) && (x.ho == y.ho)) && decide (x.po = y.po)) && samePs x.ps y.ps) && samePs x.hs y.hs
theorem sameU_iff {x y : Uri} : sameU x y = true ↔ x = y := by
  unfold sameU
  simp only [Bool.and_eq_true, beq_iff_eq, decide_eq_true_eq, samePs_iff]
  constructor
  · rintro ⟨⟨⟨⟨⟨h1, h2⟩, h3⟩, h4⟩, h5⟩, h6⟩
    obtain ⟨a, b, c, d, e, f⟩ := x
    obtain ⟨a', b', c', d', e', f'⟩ := y
    dsimp only at h1 h2 h3 h4 h5 h6
    rw [h1, h2, h3, h4, h5, h6]
  · rintro rfl; exact ⟨⟨⟨⟨⟨rfl, rfl⟩, rfl⟩, rfl⟩, rfl⟩, rfl⟩
theorem ins_at {p : Pm} : ∀ {l : List Pm} {k : Nat}, Asc l → k ≤ l.length → (∀ q ∈ l.take k, ltL p.n q.n = false) → (∀ q ∈ l.drop k, ltL p.n q.n = true) → insPm p l = l.take k ++ p :: l.drop k
  | [], k, _, hk, _, _ => by
    have : k = 0 := by simpa using hk
    subst this; rfl
  | q :: l, 0, _, _, _, h2 => by
    have := h2 q (by simp)
    unfold insPm
    rw [if_pos this]; rfl
  | q :: l, k + 1, ha, hk, h1, h2 => by
    have := h1 q (by simp)
    unfold insPm
    rw [if_neg (by rw [this]; decide), ins_at (List.Pairwise.of_cons ha) (by simpa using hk) (fun x hx => h1 x (by rw [List.take_succ_cons]; exact List.mem_cons_of_mem _ hx)) (fun x hx => h2 x hx)]
    rfl
theorem asc_take {l : List Pm} {p : Pm} {k : Nat} (ha : Asc l) (hk : k ≤ l.length) (h : k = 0 ∨ ∃ q, l[k - 1]? = some q ∧ ltL p.n q.n = false) : ∀ q ∈ l.take k, ltL p.n q.n = false := fun x hx => by
  rcases h with rfl | ⟨q, hq, hl⟩
  · simp at hx
  · obtain ⟨i, hi⟩ := List.getElem?_of_mem hx
    have hik : i < k := by
      have := (List.getElem?_eq_some_iff.1 hi).1
      rw [List.length_take] at this; omega
    rw [List.getElem?_take_of_lt hik] at hi
    have hle : leL x.n q.n = true := by
      by_cases he : i = k - 1
      · subst he; rw [hi] at hq; cases hq; unfold leL; rw [ltL_irr]; rfl
      · obtain ⟨h1, e1⟩ := List.getElem?_eq_some_iff.1 hi
        obtain ⟨h2, e2⟩ := List.getElem?_eq_some_iff.1 hq
        have := List.pairwise_iff_getElem.1 ha i (k - 1) h1 h2 (by omega)
        rw [e1, e2] at this; exact this
    have h3 : leL q.n p.n = true := by unfold leL; rw [hl]; rfl
    have h4 := leL_trans hle h3
    unfold leL at h4
    simpa using h4
end Go.Proofs.YthfonniieaiocaaGreatDoor
namespace Go.Proofs.YthfonniieaiocaaGreatDoor
open Go.RowKit

def brackL (v : List Int) : Bool := (hostL v == some v) && v.getD 0 0 == 91
def pmV (p : Pm) : Option (List Int) :=
  if isToken p.n = false ∨ lowS p.n ≠ p.n then none
  else if p.h = false then (if p.v = [] then some (59 :: p.n) else none)
  else if isToken p.v = true ∨ brackL p.v = true then some (59 :: (p.n ++ 61 :: p.v))
  else if clean p.v = true then some (59 :: (p.n ++ 61 :: quoteL p.v))
  else none
def ppsN : List Pm → List Pm → Option (List Int)
  | [], _ => some []
  | p :: r, sn => if holdsL sn p.n = true then none else match pmV p, ppsN r (sn ++ [p]) with
    | some t, some s => some (t ++ s)
    | _, _ => none
def ppsL (l : List Pm) : Option (List Int) := if 16 < l.length then none else ppsN l []
def adrT (d u s : List Int) : List Int := (if d = [] then [] else quoteL d ++ [32]) ++ 60 :: (u ++ 62 :: s)
def prAdr (a : Adr) : Option (List Int) :=
  if clean a.ds = false then none else
  match printU a.u, ppsL (sortPm a.ps) with
  | some u, some s => some (adrT a.ds u s)
  | _, _ => none
theorem tok_all {l : List Int} (h : isToken l = true) : l ≠ [] ∧ ∀ c ∈ l, isTok c = true := by
  unfold isToken at h
  rw [Bool.and_eq_true, Bool.not_eq_true', List.isEmpty_eq_false_iff, beq_iff_eq] at h
  refine ⟨h.1, ?_⟩
  have h2 := h.2
  unfold skipTo at h2
  rw [List.drop_zero, Nat.zero_add] at h2
  have h3 : l.takeWhile isTok = l := (List.takeWhile_sublist isTok).eq_of_length h2
  intro c hc
  have h4 : (l.takeWhile isTok).all isTok = true := List.all_takeWhile
  rw [h3] at h4
  exact List.all_eq_true.1 h4 c hc
theorem skip_seg {f : Int → Bool} {p z r : List Int} (hz : ∀ c ∈ z, f c = true) (hr : r = [] ∨ f (r.getD 0 0) = false) : skipTo f (p ++ (z ++ r)) p.length = p.length + z.length := by
  unfold skipTo
  rw [List.drop_left, takeWhile_seg hz hr]
theorem skip_here {f : Int → Bool} (p : List Int) (r : List Int) (h : r = [] ∨ f (r.getD 0 0) = false) : skipTo f (p ++ r) p.length = p.length := by
  have := skip_seg (f := f) (p := p) (z := []) (r := r) (fun c hc => by cases hc) h
  simpa using this
theorem tok_first {c : Int} (h : isTok c = true) : isBlank c = false ∧ c ≠ 34 ∧ c ≠ 91 ∧ c ≠ 59 ∧ c ≠ 61 := by
  refine ⟨?_, ?_, ?_, ?_, ?_⟩
  · by_cases hb : isBlank c = true
    · unfold isBlank at hb
      rw [Bool.or_eq_true, beq_iff_eq, beq_iff_eq] at hb
      rcases hb with rfl | rfl <;> cases h
    · simpa using hb
  all_goals (rintro rfl; cases h)
theorem ctl_range2 {c : Int} (h : isCtl c = false) (h2 : c = 34 ∨ c = 92) : 32 ≤ c ∧ c ≤ 126 := by omega
theorem uqL_esc2 (r : List Int) : ∀ (xs : List Int) (i : Nat) (acc : List Int), clean xs = true → uqL (escL xs ++ 34 :: r) i acc = (acc ++ xs, i + (escL xs).length + 1, 0)
  | [], i, acc, _ => by
    show uqL (34 :: r) i acc = _
    unfold uqL
    rw [if_pos rfl]
    simp [escL]
  | c :: xs, i, acc, h => by
    have hc : isCtl c = false ∧ clean xs = true := by
      unfold clean at h ⊢
      rw [List.all_cons, Bool.and_eq_true] at h
      exact ⟨by simpa using h.1, h.2⟩
    have ih := uqL_esc2 r xs
    by_cases hq : c = 34 ∨ c = 92
    · have he : escL (c :: xs) = 92 :: c :: escL xs := by
        show escC c ++ escL xs = _
        unfold escC
        rw [if_pos hq]; rfl
      rw [he, List.cons_append, List.cons_append]
      rw [uqL.eq_def]
      dsimp only
      rw [if_neg (by decide), if_pos rfl, if_pos (ctl_range2 hc.1 hq), ih _ _ hc.2]
      simp only [List.length_cons, List.append_assoc, List.singleton_append]
      congr 2
      omega
    · have he : escL (c :: xs) = c :: escL xs := by
        show escC c ++ escL xs = _
        unfold escC
        rw [if_neg hq]; rfl
      rw [he, List.cons_append]
      rw [uqL.eq_def]
      dsimp only
      rw [if_neg (fun e => hq (.inl e)), if_neg (fun e => hq (.inr e)), if_neg (by rw [hc.1]; decide), ih _ _ hc.2]
      simp only [List.length_cons, List.append_assoc, List.singleton_append]
      congr 2
      omega
theorem unq_quote2 (pre v post : List Int) (h : clean v = true) : unq (pre ++ (quoteL v ++ post)) (pre.length : Nat) = (v, pre.length + (quoteL v).length, 0) := by
  have hq : quoteL v ++ post = 34 :: (escL v ++ 34 :: post) := by unfold quoteL; simp
  rw [hq]
  unfold unq
  rw [if_neg (by simp; omega), if_neg (by
    rintro (h1 | h1)
    · rw [List.length_append, List.length_cons] at h1; omega
    · rw [Int.toNat_natCast, getD_mid] at h1
      exact h1 rfl), Int.toNat_natCast, show pre ++ 34 :: (escL v ++ 34 :: post) = (pre ++ [34]) ++ (escL v ++ 34 :: post) by simp, List.drop_append_of_le_length (by simp)]
  rw [show List.drop (pre.length + 1) (pre ++ [34]) = [] by simp, List.nil_append, uqL_esc2 post v _ _ h]
  unfold quoteL
  simp
  omega
theorem listedH_eq {xs : List Int} {a e1 a1 a2 : Nat} (h1 : skipTo isTok xs a = e1) (h2 : skipTo isBlank xs e1 = a1) (h3 : skipTo isBlank xs (a1 + 1) = a2) : listedH xs a =
    if e1 = a then .error (e1, 5)
    else if atL xs a1 61 = false then .ok (⟨lowS (subL xs a e1), [], false⟩, a1)
    else if atL xs a2 34 = true then (if (unq xs (a2 : Nat)).2.2 ≠ 0 then .error ((unq xs (a2 : Nat)).2.1, (unq xs (a2 : Nat)).2.2) else .ok (⟨lowS (subL xs a e1), (unq xs (a2 : Nat)).1, true⟩, (unq xs (a2 : Nat)).2.1))
    else if atL xs a2 91 = true then
      (match hostL (subL xs a2 (min (untilL xs a2 [93] + 1) xs.length)) with
      | none => .error (a2, 5)
      | some h => .ok (⟨lowS (subL xs a e1), h, true⟩, untilL xs a2 [93] + 1))
    else if skipTo isTok xs a2 = a2 then .error (a2, 5) else .ok (⟨lowS (subL xs a e1), subL xs a2 (skipTo isTok xs a2), true⟩, skipTo isTok xs a2) := by
  subst h1 h2 h3; rfl
def Sep (r : List Int) : Prop := r = [] ∨ r.getD 0 0 = 59
theorem Sep.or {r : List Int} (h : Sep r) {f : Int → Bool} (hf : f 59 = false) : r = [] ∨ f (r.getD 0 0) = false := by
  rcases h with h | h
  · exact .inl h
  · right; rw [h]; exact hf
theorem Sep.at {r : List Int} (h : Sep r) (p : List Int) {d : Int} (hd : d ≠ 59) : atL (p ++ r) p.length d = false := by
  rcases h with rfl | h
  · rw [List.append_nil]; exact atL_end (Nat.le_refl _)
  · cases r with
    | nil => rw [List.append_nil]; exact atL_end (Nat.le_refl _)
    | cons c r =>
      rw [atL_seg]
      have : c = 59 := h
      subst this
      simpa using fun e => hd e.symm
theorem brack_form {v : List Int} (h : brackL v = true) : hostL v = some v ∧ ∃ g, v = 91 :: (g ++ [93]) ∧ ∀ x ∈ g, x = 58 ∨ 0 ≤ hexV x := by
  unfold brackL at h
  rw [Bool.and_eq_true, beq_iff_eq, beq_iff_eq] at h
  refine ⟨h.1, ?_⟩
  rcases host_form h.1 with ⟨g, e, c⟩ | ⟨c, ne⟩
  · exact ⟨g, e, c⟩
  · exfalso
    cases v with
    | nil => exact ne rfl
    | cons x v =>
      have h91 : x = 91 := h.2
      subst h91
      exact (hostC_range (c 91 (by simp))).2.2.2.2.1 rfl
theorem pm_read {p : Pm} {t : List Int} (h : pmV p = some t) (pre r : List Int) (hr : Sep r) : ∃ u, t = 59 :: u ∧ u ≠ [] ∧ isBlank (u.getD 0 0) = false ∧ listedH (pre ++ (u ++ r)) pre.length = .ok (p, pre.length + u.length) := by
  obtain ⟨n, v, hh⟩ := p
  unfold pmV at h
  dsimp only at h
  split at h
  · cases h
  rename_i hn
  have hn1 : isToken n = true := by by_cases q : isToken n = true; exact q; exact absurd (.inl (by simpa using q)) hn
  have hn2 : lowS n = n := Classical.byContradiction fun q => hn (.inr q)
  obtain ⟨nne, ntok⟩ := tok_all hn1
  have nl : 1 ≤ n.length := by cases n with | nil => exact absurd rfl nne | cons _ _ => simp
  have nb : ∀ q : List Int, isBlank ((n ++ q).getD 0 0) = false := fun q => by
    cases n with
    | nil => exact absurd rfl nne
    | cons c n => exact (tok_first (ntok c (by simp))).1
  have NE : ∀ q : List Int, n ++ q ≠ [] := fun q e => nne (List.append_eq_nil_iff.1 e).1
  split at h
  · rename_i hf
    subst hf
    split at h
    · rename_i hv
      subst hv
      injection h with h
      subst h
      refine ⟨n, rfl, nne, (by simpa using nb []), ?_⟩
      have E1 : skipTo isTok (pre ++ (n ++ r)) pre.length = pre.length + n.length := skip_seg ntok (hr.or (by decide))
      have E2 : skipTo isBlank (pre ++ (n ++ r)) (pre.length + n.length) = pre.length + n.length := by
        have := skip_here (f := isBlank) (pre ++ n) r (hr.or (by decide))
        rwa [List.length_append, List.append_assoc] at this
      have E3 : atL (pre ++ (n ++ r)) (pre.length + n.length) 61 = false := by
        have := hr.at (pre ++ n) (d := 61) (by decide)
        rwa [List.length_append, List.append_assoc] at this
      rw [listedH_eq E1 E2 rfl, if_neg (by omega), if_pos E3, sub_seg, hn2]
    · cases h
  · rename_i hf
    have hf2 : hh = true := by simpa using hf
    subst hf2
    have key : ∀ z : List Int, isBlank ((z ++ r).getD 0 0) = false → z ≠ [] →
        listedH (pre ++ (n ++ 61 :: z ++ r)) pre.length =
          (let X := (pre ++ n ++ [61]) ++ (z ++ r)
          let a2 := (pre ++ n ++ [61]).length
          if atL X a2 34 = true then (if (unq X (a2 : Nat)).2.2 ≠ 0 then .error ((unq X (a2 : Nat)).2.1, (unq X (a2 : Nat)).2.2) else .ok (⟨n, (unq X (a2 : Nat)).1, true⟩, (unq X (a2 : Nat)).2.1))
          else if atL X a2 91 = true then
            (match hostL (subL X a2 (min (untilL X a2 [93] + 1) X.length)) with
            | none => .error (a2, 5)
            | some h => .ok (⟨n, h, true⟩, untilL X a2 [93] + 1))
          else if skipTo isTok X a2 = a2 then .error (a2, 5) else .ok (⟨n, subL X a2 (skipTo isTok X a2), true⟩, skipTo isTok X a2)) := fun z hz hzn => by
      have EX : pre ++ (n ++ 61 :: z ++ r) = (pre ++ n ++ [61]) ++ (z ++ r) := by simp
      have E1 : skipTo isTok (pre ++ (n ++ 61 :: z ++ r)) pre.length = pre.length + n.length := by
        have := skip_seg (f := isTok) (p := pre) (z := n) (r := 61 :: z ++ r) ntok (.inr rfl)
        rwa [← List.append_assoc n] at this
      have E2 : skipTo isBlank (pre ++ (n ++ 61 :: z ++ r)) (pre.length + n.length) = pre.length + n.length := by
        have := skip_here (f := isBlank) (pre ++ n) (61 :: z ++ r) (.inr rfl)
        rwa [List.length_append, List.append_assoc, ← List.append_assoc n] at this
      have L2 : (pre ++ n ++ [61]).length = pre.length + n.length + 1 := by simp; omega
      have E3 : skipTo isBlank (pre ++ (n ++ 61 :: z ++ r)) (pre.length + n.length + 1) = (pre ++ n ++ [61]).length := by
        have := skip_here (f := isBlank) (pre ++ n ++ [61]) (z ++ r) (.inr hz)
        rw [← EX] at this
        rw [← L2]
        exact this
      have E4 : atL (pre ++ (n ++ 61 :: z ++ r)) (pre.length + n.length) 61 = true := by
        have := atL_seg (pre ++ n) 61 (z ++ r) 61
        rw [List.length_append] at this
        rw [show pre ++ (n ++ 61 :: z ++ r) = pre ++ n ++ 61 :: (z ++ r) by simp, this]; rfl
      have E5 : subL (pre ++ (n ++ 61 :: z ++ r)) pre.length (pre.length + n.length) = n := by
        have := sub_seg pre n (61 :: z ++ r)
        rwa [← List.append_assoc n] at this
      rw [listedH_eq E1 E2 E3, if_neg (by omega), if_neg (by rw [E4]; decide), E5, hn2, EX]
    split at h
    · rename_i hv
      injection h with h
      subst h
      have hu : n ++ 61 :: v ≠ [] := NE _
      refine ⟨n ++ 61 :: v, rfl, hu, nb _, ?_⟩
      by_cases hv1 : isToken v = true
      · obtain ⟨vne, vtok⟩ := tok_all hv1
        cases v with
        | nil => exact absurd rfl vne
        | cons c v =>
        have hc := tok_first (vtok c (by simp))
        rw [key (c :: v) hc.1 (by simp)]
        dsimp only
        have A1 : ∀ d, atL (pre ++ n ++ [61] ++ (c :: v ++ r)) (pre ++ n ++ [61]).length d = (c == d) := fun d => atL_seg _ c (v ++ r) d
        have S1 : skipTo isTok (pre ++ n ++ [61] ++ (c :: v ++ r)) (pre ++ n ++ [61]).length = (pre ++ n ++ [61]).length + (c :: v).length := skip_seg vtok (hr.or (by decide))
        rw [A1, A1, S1, if_neg (by simpa using hc.2.1), if_neg (by simpa using hc.2.2.1), if_neg (by rw [List.length_cons]; omega), sub_seg]
        congr 2
        simp; omega
      · have hv2 : brackL v = true := by rcases hv with hv | hv; exact absurd hv hv1; exact hv
        obtain ⟨h1, g, e, hg⟩ := brack_form hv2
        subst e
        rw [key (91 :: (g ++ [93])) rfl (by simp)]
        dsimp only
        have A1 : ∀ d, atL (pre ++ n ++ [61] ++ (91 :: (g ++ [93]) ++ r)) (pre ++ n ++ [61]).length d = (91 == d) := fun d => atL_seg _ 91 (g ++ [93] ++ r) d
        have U1 : untilL (pre ++ n ++ [61] ++ (91 :: (g ++ [93]) ++ r)) (pre ++ n ++ [61]).length [93] + 1 = (pre ++ n ++ [61]).length + (91 :: (g ++ [93])).length := by
          have := until_seg (p := pre ++ n ++ [61]) (z := 91 :: g) (r := 93 :: r) (stops := [93]) (fun c hc => by
            have : c ≠ 93 := by
              rcases List.mem_cons.1 hc with rfl | hc
              · decide
              · rcases hg c hc with rfl | h9
                · decide
                · have := hex_chars h9; omega
            simpa using this) (.inr rfl)
          rw [show 91 :: (g ++ [93]) ++ r = 91 :: g ++ 93 :: r by simp, this]
          simp; omega
        have ML : min ((pre ++ n ++ [61]).length + (91 :: (g ++ [93])).length) (pre ++ n ++ [61] ++ (91 :: (g ++ [93]) ++ r)).length = (pre ++ n ++ [61]).length + (91 :: (g ++ [93])).length := by
          rw [len_app (pre ++ n ++ [61]) _, len_app (91 :: (g ++ [93])) _]; omega
        rw [A1, A1, if_neg (by decide), if_pos (by decide), U1, ML, sub_seg, h1]
        dsimp only
        congr 2
        simp; omega
    · rename_i hv
      split at h
      · rename_i hc
        injection h with h
        subst h
        refine ⟨n ++ 61 :: quoteL v, rfl, NE _, nb _, ?_⟩
        rw [key (quoteL v) rfl (by simp [quoteL])]
        dsimp only
        have A1 : atL (pre ++ n ++ [61] ++ (quoteL v ++ r)) (pre ++ n ++ [61]).length 34 = true := by
          have := atL_seg (pre ++ n ++ [61]) 34 ((escL v ++ [34]) ++ r) 34
          exact this
        rw [if_pos A1, unq_quote2 _ v r hc, if_neg (by simp)]
        congr 2
        simp; omega
      · cases h
theorem pps_head {l sn : List Pm} {s : List Int} (h : ppsN l sn = some s) : Sep s := by
  cases l with
  | nil => unfold ppsN at h; injection h with h; exact .inl h.symm
  | cons p r =>
    unfold ppsN at h
    split at h
    · cases h
    · cases h1 : pmV p with
      | none => rw [h1] at h; cases h
      | some t =>
        cases h2 : ppsN r (sn ++ [p]) with
        | none => rw [h1, h2] at h; cases h
        | some u =>
          rw [h1, h2] at h
          injection h with h
          obtain ⟨x, e, _⟩ := pm_read h1 [] [] (.inl rfl)
          right
          rw [← h, e]; rfl
theorem parsN_eq {xs : List Int} {f a a0 a1 : Nat} {l : List Pm} (h0 : skipTo isBlank xs a = a0) (h1 : skipTo isBlank xs (a0 + 1) = a1) : parsN xs (f + 1) a l =
    if xs.length ≤ a0 then .ok l else if xs.getD a0 0 ≠ 59 then .error (a0, 5) else
    match listedH xs a1 with
    | .error e => .error e
    | .ok (p, a2) => if roomL l p.n ≠ 0 then .error (a1, roomL l p.n) else parsN xs f a2 (l ++ [p]) := by subst h0; subst h1; rfl
theorem pars_back : ∀ (l sn : List Pm) (pre s : List Int) (f : Nat), ppsN l sn = some s → sn.length + l.length ≤ 16 → l.length + 1 ≤ f → parsN (pre ++ s) f pre.length sn = .ok (sn ++ l)
  | [], sn, pre, s, f, h, _, hf => by
    unfold ppsN at h
    injection h with h
    subst h
    obtain ⟨f, rfl⟩ : ∃ g, f = g + 1 := ⟨f - 1, by simp at hf; omega⟩
    rw [List.append_nil, List.append_nil, parsN_eq (skip_end (Nat.le_refl _)) rfl, if_pos (Nat.le_refl _)]
  | p :: r, sn, pre, s, f, h, hl, hf => by
    unfold ppsN at h
    split at h
    · cases h
    rename_i hh
    cases h1 : pmV p with
    | none => rw [h1] at h; cases h
    | some t =>
    cases h2 : ppsN r (sn ++ [p]) with
    | none => rw [h1, h2] at h; cases h
    | some u =>
    rw [h1, h2] at h
    injection h with h
    subst h
    obtain ⟨x, e, xne, xb, hx⟩ := pm_read h1 (pre ++ [59]) u (pps_head h2)
    subst e
    obtain ⟨f, rfl⟩ : ∃ g, f = g + 1 := ⟨f - 1, by simp at hf; omega⟩
    have EX : pre ++ (59 :: x ++ u) = (pre ++ [59]) ++ (x ++ u) := by simp
    have L1 : (pre ++ [59]).length = pre.length + 1 := by simp
    have A0 : skipTo isBlank (pre ++ (59 :: x ++ u)) pre.length = pre.length := skip_here pre _ (.inr rfl)
    have A1 : skipTo isBlank (pre ++ (59 :: x ++ u)) (pre.length + 1) = pre.length + 1 := by
      rw [EX, ← L1]
      refine skip_here _ _ (.inr ?_)
      cases x with
      | nil => exact absurd rfl xne
      | cons c x => exact xb
    rw [parsN_eq A0 A1, if_neg (by simp), if_neg (by rw [show pre ++ (59 :: x ++ u) = pre ++ 59 :: (x ++ u) from rfl, getD_mid]; simp)]
    rw [EX, ← L1, hx]
    dsimp only
    have hroom : roomL sn p.n = 0 := by
      unfold roomL
      rw [if_neg hh, if_neg (by simp at hl; omega)]
    rw [if_neg (by rw [hroom]; decide)]
    have ih := pars_back r (sn ++ [p]) (pre ++ [59] ++ x) u f h2 (by simp at hl ⊢; omega) (by simp at hf ⊢; omega)
    rw [List.append_assoc sn] at ih
    rw [← List.append_assoc (pre ++ [59]), ← List.length_append]
    exact ih
theorem pps_len : ∀ {l sn : List Pm} {s : List Int}, ppsN l sn = some s → l.length ≤ s.length
  | [], _, _, _ => Nat.zero_le _
  | p :: r, sn, s, h => by
    unfold ppsN at h
    split at h
    · cases h
    cases h1 : pmV p with
    | none => rw [h1] at h; cases h
    | some t =>
    cases h2 : ppsN r (sn ++ [p]) with
    | none => rw [h1, h2] at h; cases h
    | some u =>
    rw [h1, h2] at h
    injection h with h
    subst h
    have ih := pps_len h2
    obtain ⟨x, e, _⟩ := pm_read h1 [] [] (.inl rfl)
    subst e
    simp
    omega
theorem pars_law {l : List Pm} {s : List Int} (h : ppsL l = some s) : parsL s = .ok l ∧ l.length ≤ 16 := by
  unfold ppsL at h
  split at h
  · cases h
  · rename_i hl
    refine ⟨?_, by omega⟩
    have := pars_back l [] [] s (s.length + 1) h (by simp; omega) (by have := pps_len h; omega)
    exact this
theorem seg_no62 {k : Int} {q : Pm} (h : FOK k q) : (62 : Int) ∉ fT k q := fun hm => by
  rcases fT_in h 62 hm with h | h
  · omega
  · unfold escX at h
    rw [Bool.or_eq_true] at h
    rcases h with h | h
    · simp at h
    · exact (inC_range h).2.2.2.2.2.1 rfl
theorem hds_no62 : ∀ {hs : List Pm} {b : Bool}, (∀ q ∈ hs, FOK 2 q) → (62 : Int) ∉ hdsT hs b
  | [], _, _ => by simp [hdsT]
  | q :: hs, b, h => fun hm => by
    rw [show hdsT (q :: hs) b = (if b = true then [63] else [38]) ++ hdT q ++ hdsT hs false from rfl, hdT_eq (h q (by simp))] at hm
    rcases List.mem_append.1 hm with hm | hm
    · rcases List.mem_append.1 hm with hm | hm
      · cases b <;> simp at hm
      · exact seg_no62 (h q (by simp)) hm
    · exact hds_no62 (fun x hx => h x (by simp [hx])) hm
theorem print_no62 {n : Uri} (hn : UriN n) : (62 : Int) ∉ printN n := fun hm => by
  unfold printN at hm
  simp only [List.mem_append] at hm
  rcases hm with (((((hm | hm) | hm) | hm) | hm) | hm) | hm
  · rcases hn.k with ⟨h | h, _⟩ | ⟨h, _⟩ <;> (rw [h] at hm; revert hm; decide)
  · simp at hm
  · split at hm
    · rename_i ht
      rcases hn.k with ⟨h, _⟩ | ⟨_, _, _, _, h⟩
      · rw [ht] at h; exact absurd h (by decide)
      · obtain ⟨sg, d, e, _, _, hd⟩ := dialed_is h
        rw [e] at hm
        rcases List.mem_append.1 hm with hm | hm
        · cases sg <;> simp at hm
        · exact (telC_range (List.all_eq_true.1 hd _ hm)).2.2.2.2.2.2.1 rfl
    · split at hm
      · cases hm
      · rcases List.mem_append.1 hm with hm | hm
        · have h := escT_in hn.us 62 hm
          unfold escX at h
          rw [Bool.or_eq_true] at h
          rcases h with h | h
          · simp at h
          · exact (inC_range h).2.2.2.2.2.1 rfl
        · simp at hm
  · rcases hn.k with ⟨_, h, _⟩ | ⟨_, h, _⟩
    · rcases host_form h with ⟨g, e, c⟩ | ⟨c, _⟩
      · rw [e] at hm
        rcases List.mem_cons.1 hm with h | hm
        · omega
        · rcases List.mem_append.1 hm with hm | hm
          · rcases c _ hm with h | h
            · omega
            · have := hex_chars h; omega
          · simp at hm
      · exact (hostC_range (c _ hm)).2.2.2.2.2.2.2.2.2.2.2 rfl
    · rw [h] at hm; cases hm
  · split at hm
    · cases hm
    · rcases List.mem_append.1 hm with hm | hm
      · simp at hm
      · have h0 : 0 ≤ n.po := by rcases hn.k with ⟨_, _, _, h, _⟩ | ⟨_, _, h, _⟩ <;> omega
        obtain ⟨m, e⟩ : ∃ m : Nat, n.po = (m : Int) := ⟨n.po.toNat, by omega⟩
        rw [e] at hm
        exact decL_no (by decide) hm
  · obtain ⟨q, hq, hm⟩ := List.mem_flatMap.1 hm
    rw [pmT_eq] at hm
    rcases List.mem_cons.1 hm with h | hm
    · omega
    · exact seg_no62 (hn.ps.f q hq) hm
  · exact hds_no62 hn.hs.f hm
theorem aim_read {n : Uri} (hn : UriN n) (pre s : List Int) (hl : (printN n).length ≤ 1024) : aimL (pre ++ 60 :: (printN n ++ 62 :: s)) pre.length = .ok (n, (pre ++ 60 :: (printN n ++ [62])).length) ∧ (pre ++ 60 :: (printN n ++ 62 :: s)).drop (pre ++ 60 :: (printN n ++ [62])).length = s := by
  have EX : pre ++ 60 :: (printN n ++ 62 :: s) = (pre ++ [60]) ++ (printN n ++ 62 :: s) := by simp
  have L1 : (pre ++ [60]).length = pre.length + 1 := by simp
  have U1 : untilL (pre ++ 60 :: (printN n ++ 62 :: s)) (pre.length + 1) [62] = pre.length + 1 + (printN n).length := by
    rw [EX, ← L1]
    refine until_seg (fun c hc => ?_) (.inr rfl)
    have : c ≠ 62 := fun e => print_no62 hn (e ▸ hc)
    simpa using this
  refine ⟨?_, ?_⟩
  · unfold aimL
    rw [if_pos (by rw [atL_seg]; rfl)]
    dsimp only
    rw [U1, if_neg (by simp; omega), EX, ← L1, sub_seg, uri_read hn hl]
    dsimp only
    congr 2
    simp; omega
  · rw [show pre ++ 60 :: (printN n ++ 62 :: s) = (pre ++ 60 :: (printN n ++ [62])) ++ s by simp, List.drop_left]
theorem wordsN_at {xs : List Int} {f a : Nat} {l : List (List Int)} (h : atL xs a 60 = true) : wordsN xs (f + 1) a l = .ok (l, a) := by
  unfold wordsN; rw [if_pos h]
theorem nameL_eq {xs : List Int} {a b : Nat} (h : skipTo isBlank xs 0 = a) (hb : skipTo isBlank xs (unq xs (a : Nat)).2.1 = b) : nameL xs =
    if atL xs a 34 = true then
      (if (unq xs (a : Nat)).2.2 ≠ 0 then .error ((unq xs (a : Nat)).2.1, (unq xs (a : Nat)).2.2) else if atL xs b 60 = false then .error (b, 5) else .ok ((unq xs (a : Nat)).1, b))
    else if xs.contains 60 = true then
      (match wordsN xs (xs.length + 1) a [] with
      | .error e => .error (e, 5)
      | .ok (l, b) => .ok (joinL [32] l, b))
    else .ok ([], a) := by subst h; subst hb; rfl
theorem adr_back {a : Adr} {t : List Int} (hb : UriBy a.u) (h : prAdr a = some t) (hl : t.length ≤ 1024) : ∃ n, normL a.u = some n ∧ adrL t = .ok ⟨a.ds, n, sortPm a.ps⟩ ∧ a.ps.length ≤ 16 := by
  unfold prAdr at h
  split at h
  · cases h
  rename_i hc
  cases hp : printU a.u with
  | none => rw [hp] at h; cases h
  | some u =>
  cases hs : ppsL (sortPm a.ps) with
  | none => rw [hp, hs] at h; cases h
  | some s =>
  rw [hp, hs] at h
  injection h with h
  subst h
  obtain ⟨n, hn, _, hu, _⟩ := round_law hb hp
  subst hu
  have HN := norm_ok hb hn
  obtain ⟨hps, hlen⟩ := pars_law hs
  refine ⟨n, hn, ?_, by rwa [sort_len] at hlen⟩
  have hul : (printN n).length ≤ 1024 := by unfold adrT at hl; simp at hl; omega
  unfold adrT at hl ⊢
  unfold adrL
  rw [if_neg (by omega)]
  by_cases hd : a.ds = []
  · rw [if_pos hd, List.nil_append]
    obtain ⟨a1, a2⟩ := aim_read HN [] s hul
    have a1 : aimL (60 :: (printN n ++ 62 :: s)) 0 = .ok (n, (60 :: (printN n ++ [62])).length) := a1
    have a2 : (60 :: (printN n ++ 62 :: s)).drop (60 :: (printN n ++ [62])).length = s := a2
    have SK : skipTo isBlank (60 :: (printN n ++ 62 :: s)) 0 = 0 := skip_here (f := isBlank) [] (60 :: (printN n ++ 62 :: s)) (.inr rfl)
    have A34 : atL (60 :: (printN n ++ 62 :: s)) 0 34 = false := atL_seg [] 60 (printN n ++ 62 :: s) 34
    have N1 : nameL (60 :: (printN n ++ 62 :: s)) = .ok ([], 0) := by
      have A60 : atL (60 :: (printN n ++ 62 :: s)) 0 60 = true := atL_seg [] 60 (printN n ++ 62 :: s) 60
      rw [nameL_eq (a := 0) SK rfl, if_neg (by rw [A34]; decide), if_pos (by simp), wordsN_at A60]
      rfl
    rw [N1]
    dsimp only
    rw [a1]
    dsimp only
    rw [a2, hps, hd]
  · rw [if_neg hd]
    obtain ⟨a1, a2⟩ := aim_read HN (quoteL a.ds ++ [32]) s hul
    have hc2 : clean a.ds = true := by simpa using hc
    have Q1 := unq_quote2 [] a.ds ([32] ++ 60 :: (printN n ++ 62 :: s)) hc2
    rw [List.nil_append, ← List.append_assoc] at Q1
    rw [List.length_nil, Nat.zero_add] at Q1
    have B1 : skipTo isBlank (quoteL a.ds ++ [32] ++ 60 :: (printN n ++ 62 :: s)) (quoteL a.ds).length = (quoteL a.ds ++ [32]).length := by
      have := skip_seg (f := isBlank) (p := quoteL a.ds) (z := [32]) (r := 60 :: (printN n ++ 62 :: s)) (fun c hc => by rw [List.mem_singleton] at hc; subst hc; rfl) (.inr rfl)
      rw [← List.append_assoc] at this
      rw [this]; simp
    have A60 := atL_seg (quoteL a.ds ++ [32]) 60 (printN n ++ 62 :: s) 60
    have SK : skipTo isBlank (quoteL a.ds ++ [32] ++ 60 :: (printN n ++ 62 :: s)) 0 = 0 := skip_here (f := isBlank) [] (quoteL a.ds ++ [32] ++ 60 :: (printN n ++ 62 :: s)) (.inr rfl)
    have N1 : nameL (quoteL a.ds ++ [32] ++ 60 :: (printN n ++ 62 :: s)) = .ok (a.ds, (quoteL a.ds ++ [32]).length) := by
      rw [nameL_eq (a := 0) (b := (quoteL a.ds ++ [32]).length) SK (by rw [Q1]; exact B1), if_pos (by rfl), Q1, if_neg (by simp), if_neg (by rw [A60]; decide)]
    rw [N1]
    dsimp only
    rw [a1]
    dsimp only
    rw [a2, hps]
end Go.Proofs.YthfonniieaiocaaGreatDoor
