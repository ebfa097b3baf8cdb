/- Plain laws: equal addresses; insertion from behind; a content read in place. And what stands behind it. -/
import Derived.Test.YthfonniieaiocaaGreatDoorVa
import Derived.Test.YthfonniieaiocaaGreatDoorBr
set_option linter.unusedVariables false
set_option linter.unusedSimpArgs false
namespace Go.Proofs.YthfonniieaiocaaGreatDoor
open Go.RowKit

def pmK (p : Pm) : List Int × List Int × Bool := (p.n, p.v, p.h)
theorem pmK_inj {l m : List Pm} (h : l.map pmK = m.map pmK) : l = m := by
  induction l generalizing m with
  | nil => cases m with
    | nil => rfl
    | cons _ _ => cases h
  | cons p l ih =>
    cases m with
    | nil => cases h
    | cons q m =>
      rw [List.map_cons, List.map_cons] at h
      injection h with h1 h2
      obtain ⟨a, b, c⟩ := p
      obtain ⟨d, e, f⟩ := q
      unfold pmK at h1
      injection h1 with h1 h3
      injection h3 with h3 h4
      dsimp only at h1 h3 h4
      rw [ih h2, h1, h3, h4]
def samePs (l m : List Pm) : Bool := l.map pmK == m.map pmK
theorem samePs_iff {l m : List Pm} : samePs l m = true ↔ l = m := by
  unfold samePs
  rw [beq_iff_eq]
  exact ⟨pmK_inj, fun h => by rw [h]⟩
def sameU (x y : Uri) : Bool := (((((x.sc == y.sc) && (x.us == y.us)) && (x.ho == y.ho)) && decide (x.po = y.po)) && samePs x.ps y.ps) && samePs x.hs y.hs
theorem sameU_iff {x y : Uri} : sameU x y = true ↔ x = y := by
  unfold sameU
  simp only [Bool.and_eq_true, beq_iff_eq, decide_eq_true_eq, samePs_iff]
  constructor
  · rintro ⟨⟨⟨⟨⟨h1, h2⟩, h3⟩, h4⟩, h5⟩, h6⟩
    obtain ⟨a, b, c, d, e, f⟩ := x
    obtain ⟨a', b', c', d', e', f'⟩ := y
    dsimp only at h1 h2 h3 h4 h5 h6
    rw [h1, h2, h3, h4, h5, h6]
  · rintro rfl; exact ⟨⟨⟨⟨⟨rfl, rfl⟩, rfl⟩, rfl⟩, rfl⟩, rfl⟩
theorem ins_at {p : Pm} : ∀ {l : List Pm} {k : Nat}, Asc l → k ≤ l.length → (∀ q ∈ l.take k, ltL p.n q.n = false) → (∀ q ∈ l.drop k, ltL p.n q.n = true) → insPm p l = l.take k ++ p :: l.drop k
  | [], k, _, hk, _, _ => by
    have : k = 0 := by simpa using hk
    subst this; rfl
  | q :: l, 0, _, _, _, h2 => by
    have := h2 q (by simp)
    unfold insPm
    rw [if_pos this]; rfl
  | q :: l, k + 1, ha, hk, h1, h2 => by
    have := h1 q (by simp)
    unfold insPm
    rw [if_neg (by rw [this]; decide), ins_at (List.Pairwise.of_cons ha) (by simpa using hk) (fun x hx => h1 x (by rw [List.take_succ_cons]; exact List.mem_cons_of_mem _ hx)) (fun x hx => h2 x hx)]
    rfl
theorem asc_take {l : List Pm} {p : Pm} {k : Nat} (ha : Asc l) (hk : k ≤ l.length) (h : k = 0 ∨ ∃ q, l[k - 1]? = some q ∧ ltL p.n q.n = false) : ∀ q ∈ l.take k, ltL p.n q.n = false := fun x hx => by
  rcases h with rfl | ⟨q, hq, hl⟩
  · simp at hx
  · obtain ⟨i, hi⟩ := List.getElem?_of_mem hx
    have hik : i < k := by
      have := (List.getElem?_eq_some_iff.1 hi).1
      rw [List.length_take] at this; omega
    rw [List.getElem?_take_of_lt hik] at hi
    have hle : leL x.n q.n = true := by
      by_cases he : i = k - 1
      · subst he; rw [hi] at hq; cases hq; unfold leL; rw [ltL_irr]; rfl
      · obtain ⟨h1, e1⟩ := List.getElem?_eq_some_iff.1 hi
        obtain ⟨h2, e2⟩ := List.getElem?_eq_some_iff.1 hq
        have := List.pairwise_iff_getElem.1 ha i (k - 1) h1 h2 (by omega)
        rw [e1, e2] at this; exact this
    have h3 : leL q.n p.n = true := by unfold leL; rw [hl]; rfl
    have h4 := leL_trans hle h3
    unfold leL at h4
    simpa using h4

def brackL (v : List Int) : Bool := (hostL v == some v) && v.getD 0 0 == 91
def pmV (p : Pm) : Option (List Int) :=
  if isToken p.n = false ∨ lowS p.n ≠ p.n then none
  else if p.h = false then (if p.v = [] then some (59 :: p.n) else none)
  else if isToken p.v = true ∨ brackL p.v = true then some (59 :: (p.n ++ 61 :: p.v))
  else if clean p.v = true then some (59 :: (p.n ++ 61 :: quoteL p.v))
  else none
def ppsN : List Pm → List Pm → Option (List Int)
  | [], _ => some []
  | p :: r, sn => if holdsL sn p.n = true then none else match pmV p, ppsN r (sn ++ [p]) with
    | some t, some s => some (t ++ s)
    | _, _ => none
def ppsL (l : List Pm) : Option (List Int) := if 16 < l.length then none else ppsN l []
def adrT (d u s : List Int) : List Int := (if d = [] then [] else quoteL d ++ [32]) ++ 60 :: (u ++ 62 :: s)
def prAdr (a : Adr) : Option (List Int) :=
  if clean a.ds = false then none else
  match printU a.u, ppsL (sortPm a.ps) with
  | some u, some s => some (adrT a.ds u s)
  | _, _ => none
theorem tok_all {l : List Int} (h : isToken l = true) : l ≠ [] ∧ ∀ c ∈ l, isTok c = true := by
  unfold isToken at h
  rw [Bool.and_eq_true, Bool.not_eq_true', List.isEmpty_eq_false_iff, beq_iff_eq] at h
  refine ⟨h.1, ?_⟩
  have h2 := h.2
  unfold skipTo at h2
  rw [List.drop_zero, Nat.zero_add] at h2
  have h3 : l.takeWhile isTok = l := (List.takeWhile_sublist isTok).eq_of_length h2
  intro c hc
  have h4 : (l.takeWhile isTok).all isTok = true := List.all_takeWhile
  rw [h3] at h4
  exact List.all_eq_true.1 h4 c hc
theorem listedH_eq {xs : List Int} {a e1 a1 a2 : Nat} (h1 : skipTo isTok xs a = e1) (h2 : skipTo isBlank xs e1 = a1) (h3 : skipTo isBlank xs (a1 + 1) = a2) : listedH xs a =
    if e1 = a then .error (e1, 5)
    else if atL xs a1 61 = false then .ok (⟨lowS (subL xs a e1), [], false⟩, a1)
    else if atL xs a2 34 = true then (if (unq xs (a2 : Nat)).2.2 ≠ 0 then .error ((unq xs (a2 : Nat)).2.1, (unq xs (a2 : Nat)).2.2) else .ok (⟨lowS (subL xs a e1), (unq xs (a2 : Nat)).1, true⟩, (unq xs (a2 : Nat)).2.1))
    else if atL xs a2 91 = true then
      (match hostL (subL xs a2 (min (untilL xs a2 [93] + 1) xs.length)) with
      | none => .error (a2, 5)
      | some h => .ok (⟨lowS (subL xs a e1), h, true⟩, untilL xs a2 [93] + 1))
    else if skipTo isTok xs a2 = a2 then .error (a2, 5) else .ok (⟨lowS (subL xs a e1), subL xs a2 (skipTo isTok xs a2), true⟩, skipTo isTok xs a2) := by
  subst h1 h2 h3; rfl
def Sep (r : List Int) : Prop := r = [] ∨ r.getD 0 0 = 59
theorem Sep.or {r : List Int} (h : Sep r) {f : Int → Bool} (hf : f 59 = false) : r = [] ∨ f (r.getD 0 0) = false := by
  rcases h with h | h
  · exact .inl h
  · right; rw [h]; exact hf
theorem Sep.at {r : List Int} (h : Sep r) (p : List Int) {d : Int} (hd : d ≠ 59) : atL (p ++ r) p.length d = false := by
  rcases h with rfl | h
  · rw [List.append_nil]; exact atL_end (Nat.le_refl _)
  · cases r with
    | nil => rw [List.append_nil]; exact atL_end (Nat.le_refl _)
    | cons c r =>
      rw [atL_seg]
      have : c = 59 := h
      subst this
      simpa using fun e => hd e.symm
theorem brack_form {v : List Int} (h : brackL v = true) : hostL v = some v ∧ ∃ g, v = 91 :: (g ++ [93]) ∧ ∀ x ∈ g, x = 58 ∨ 0 ≤ hexV x := by
  unfold brackL at h
  rw [Bool.and_eq_true, beq_iff_eq, beq_iff_eq] at h
  refine ⟨h.1, ?_⟩
  rcases host_form h.1 with ⟨g, e, c⟩ | ⟨c, ne⟩
  · exact ⟨g, e, c⟩
  · exfalso
    cases v with
    | nil => exact ne rfl
    | cons x v =>
      have h91 : x = 91 := h.2
      subst h91
      exact (hostC_range (c 91 (by simp))).2.2.2.2.1 rfl
theorem parsN_eq {xs : List Int} {f a a0 a1 : Nat} {l : List Pm} (h0 : skipTo isBlank xs a = a0) (h1 : skipTo isBlank xs (a0 + 1) = a1) : parsN xs (f + 1) a l =
    if xs.length ≤ a0 then .ok l else if xs.getD a0 0 ≠ 59 then .error (a0, 5) else
    match listedH xs a1 with
    | .error e => .error e
    | .ok (p, a2) => if roomL l p.n ≠ 0 then .error (a1, roomL l p.n) else parsN xs f a2 (l ++ [p]) := by subst h0; subst h1; rfl
theorem wordsN_at {xs : List Int} {f a : Nat} {l : List (List Int)} (h : atL xs a 60 = true) : wordsN xs (f + 1) a l = .ok (l, a) := by
  unfold wordsN; rw [if_pos h]
theorem nameL_eq {xs : List Int} {a b : Nat} (h : skipTo isBlank xs 0 = a) (hb : skipTo isBlank xs (unq xs (a : Nat)).2.1 = b) : nameL xs =
    if atL xs a 34 = true then
      (if (unq xs (a : Nat)).2.2 ≠ 0 then .error ((unq xs (a : Nat)).2.1, (unq xs (a : Nat)).2.2) else if atL xs b 60 = false then .error (b, 5) else .ok ((unq xs (a : Nat)).1, b))
    else if xs.contains 60 = true then
      (match wordsN xs (xs.length + 1) a [] with
      | .error e => .error (e, 5)
      | .ok (l, b) => .ok (joinL [32] l, b))
    else .ok ([], a) := by subst h; subst hb; rfl
end Go.Proofs.YthfonniieaiocaaGreatDoor
