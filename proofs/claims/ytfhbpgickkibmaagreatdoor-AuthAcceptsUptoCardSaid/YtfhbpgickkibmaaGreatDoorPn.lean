/- Plain law: what is printed is divided and read back. Plain law: the fields of a printed text are read back. Plain law: a printed challenge and printed credentials read back as they were. -/
import Derived.Test.YtfhbpgickkibmaaGreatDoorPj
namespace Go.Proofs.YtfhbpgickkibmaaGreatDoor
open Go.RowKit

theorem ctl_range {c : Int} (h : isCtl c = false) (h2 : c = 34 ∨ c = 92) : 32 ≤ c ∧ c ≤ 126 := by omega
theorem uqL_esc (r : List Int) : ∀ (xs : List Int) (i : Nat) (acc : List Int), clean xs = true → uqL (escL xs ++ 34 :: r) i acc = (acc ++ xs, i + (escL xs).length + 1, 0)
  | [], i, acc, _ => by
    show uqL (34 :: r) i acc = _
    unfold uqL
    rw [if_pos rfl]
    simp [escL]
  | c :: xs, i, acc, h => by
    have hc : isCtl c = false ∧ clean xs = true := by
      unfold clean at h ⊢
      rw [List.all_cons, Bool.and_eq_true] at h
      exact ⟨by simpa using h.1, h.2⟩
    have ih := uqL_esc r xs
    by_cases hq : c = 34 ∨ c = 92
    · have he : escL (c :: xs) = 92 :: c :: escL xs := by
        show escC c ++ escL xs = _
        unfold escC
        rw [if_pos hq]; rfl
      rw [he, List.cons_append, List.cons_append]
      rw [uqL.eq_def]
      dsimp only
      rw [if_neg (by decide), if_pos rfl, if_pos (ctl_range hc.1 hq), ih _ _ hc.2]
      simp only [List.length_cons, List.append_assoc, List.singleton_append]
      congr 2
      omega
    · have he : escL (c :: xs) = c :: escL xs := by
        show escC c ++ escL xs = _
        unfold escC
        rw [if_neg hq]; rfl
      rw [he, List.cons_append]
      rw [uqL.eq_def]
      dsimp only
      rw [if_neg (fun e => hq (.inl e)), if_neg (fun e => hq (.inr e)), if_neg (by rw [hc.1]; decide), ih _ _ hc.2]
      simp only [List.length_cons, List.append_assoc, List.singleton_append]
      congr 2
      omega
theorem getD_app (pre : List Int) (c : Int) (r : List Int) : (pre ++ c :: r).getD pre.length 0 = c := by
  rw [List.getD_eq_getElem?_getD, List.getElem?_append_right (Nat.le_refl _), Nat.sub_self]; rfl
theorem unq_quote (pre v post : List Int) (h : clean v = true) : unq (pre ++ (quoteL v ++ post)) (pre.length : Nat) = (v, pre.length + (quoteL v).length, 0) := by
  have hq : quoteL v ++ post = 34 :: (escL v ++ 34 :: post) := by unfold quoteL; simp
  rw [hq]
  unfold unq
  rw [if_neg (by simp; omega), if_neg (by
    rintro (h1 | h1)
    · rw [List.length_append, List.length_cons] at h1; omega
    · rw [Int.toNat_natCast, getD_app] at h1
      exact h1 rfl), Int.toNat_natCast, show pre ++ 34 :: (escL v ++ 34 :: post) = (pre ++ [34]) ++ (escL v ++ 34 :: post) by simp, List.drop_append_of_le_length (by simp)]
  rw [show List.drop (pre.length + 1) (pre ++ [34]) = [] by simp, List.nil_append, uqL_esc post v _ _ h]
  unfold quoteL
  simp
  omega
/-- A piece that the division walks through without a mark. -/
def Closed (p : List Int) : Prop := ∃ n, n ≤ p.length ∧ ∀ (pre post : List Int) (f b : Nat) (acc : List (Nat × List Int)), splN (pre ++ (p ++ post)) 44 (f + n) pre.length b acc = splN (pre ++ (p ++ post)) 44 f (pre.length + p.length) b acc
theorem Closed.nil : Closed [] := ⟨0, Nat.le_refl _, fun pre post f b acc => rfl⟩
theorem Closed.append {p q : List Int} (hp : Closed p) (hq : Closed q) : Closed (p ++ q) := by
  obtain ⟨n, hn, h1⟩ := hp
  obtain ⟨m, hm, h2⟩ := hq
  refine ⟨n + m, by rw [List.length_append]; omega, fun pre post f b acc => ?_⟩
  have e1 := h1 pre (q ++ post) (f + m) b acc
  have e2 := h2 (pre ++ p) post f b acc
  rw [List.append_assoc pre p, List.length_append] at e2
  rw [List.append_assoc p q post, List.length_append, show f + (n + m) = f + m + n by omega, e1, e2, Nat.add_assoc]
theorem Closed.one {c : Int} (h1 : c ≠ 34) (h2 : c ≠ 60) (h3 : c ≠ 62) (h4 : c ≠ 44) : Closed [c] :=
  ⟨1, Nat.le_refl _, fun pre post f b acc => by
    rw [splN]
    rw [if_neg (by simp), show [c] ++ post = c :: post from rfl, getD_app, if_neg h1, if_neg h2, if_neg h3, if_neg h4]
    rfl⟩
theorem Closed.safe : ∀ {p : List Int}, (∀ c ∈ p, c ≠ 34 ∧ c ≠ 60 ∧ c ≠ 62 ∧ c ≠ 44) → Closed p
  | [], _ => Closed.nil
  | c :: p, h => by
    have hc := h c (by simp)
    exact (Closed.one hc.1 hc.2.1 hc.2.2.1 hc.2.2.2).append (Closed.safe fun d hd => h d (by simp [hd]))
theorem Closed.quote {v : List Int} (h : clean v = true) : Closed (quoteL v) :=
  ⟨1, by unfold quoteL; simp, fun pre post f b acc => by
    have hu := unq_quote pre v post h
    have hg : (pre ++ (quoteL v ++ post)).getD pre.length 0 = 34 := by
      rw [show quoteL v ++ post = 34 :: (escL v ++ [34] ++ post) by unfold quoteL; simp]
      exact getD_app _ _ _
    have hl : 0 < (quoteL v).length := by unfold quoteL; simp
    rw [splN]
    rw [if_neg (by simp only [List.length_append]; omega), if_pos hg, hu, if_neg (fun h => h rfl)]⟩
theorem trim_cons_blank (p : List Int) : trimB (32 :: p) = trimB p := by
  unfold trimB ltrim
  rw [List.dropWhile_cons, if_pos (by decide)]
/-- A piece without blanks at its ends. -/
def Tight (p : List Int) : Prop := (∃ c q, p = c :: q ∧ isBlank c = false) ∧ ∃ c q, p = q ++ [c] ∧ isBlank c = false
theorem Tight.trim {p : List Int} (h : Tight p) : trimB p = p := by
  obtain ⟨⟨c, q, h1, hc⟩, d, r, h2, hd⟩ := h
  have hl : ltrim p = p := by rw [h1]; unfold ltrim; rw [List.dropWhile_cons, if_neg (by rw [hc]; decide)]
  unfold trimB
  rw [hl, h2]
  unfold rtrim
  rw [List.reverse_append, List.reverse_singleton, List.singleton_append, List.dropWhile_cons, if_neg (by rw [hd]; decide), List.reverse_cons, List.reverse_reverse]
theorem splN_join : ∀ (ps : List (List Int)) (p : List Int) (pre : List Int) (f : Nat) (acc : List (Nat × List Int)), (∀ q ∈ p :: ps, Closed q ∧ Tight q) → (32 :: joinL [44, 32] (p :: ps)).length + 1 ≤ f →
    ∃ qs : List (Nat × List Int), splN (pre ++ 32 :: joinL [44, 32] (p :: ps)) 44 f pre.length pre.length acc = (acc ++ qs, 0, 0) ∧ qs.map (·.2) = p :: ps
  | [], p, pre, f, acc, hp, hf => by
    obtain ⟨hc, ht⟩ := hp p (by simp)
    obtain ⟨n, hn, hrun⟩ := (Closed.one (c := 32) (by decide) (by decide) (by decide) (by decide)).append hc
    rw [joinL_one] at hf ⊢
    have e := hrun pre [] (f - n) pre.length acc
    rw [List.append_nil, List.singleton_append] at e
    rw [List.length_append, List.length_singleton] at hn
    rw [List.length_cons] at hf
    rw [show f - n + n = f by omega] at e
    obtain ⟨g, hg⟩ : ∃ g, f - n = g + 1 := ⟨f - n - 1, by omega⟩
    refine ⟨[pieceOf (pre ++ 32 :: p) pre.length (pre ++ 32 :: p).length], ?_, ?_⟩
    · rw [e, hg, splN, if_pos (by simp)]
    · show [(pieceOf (pre ++ 32 :: p) pre.length (pre ++ 32 :: p).length).2] = [p]
      unfold pieceOf subL
      rw [List.drop_append_of_le_length (Nat.le_refl _), List.drop_length, List.nil_append, List.take_of_length_le (by simp)]
      rw [trim_cons_blank, ht.trim]
  | p2 :: ps, p, pre, f, acc, hp, hf => by
    obtain ⟨hc, ht⟩ := hp p (by simp)
    obtain ⟨n, hn, hrun⟩ := (Closed.one (c := 32) (by decide) (by decide) (by decide) (by decide)).append hc
    rw [joinL_cons] at hf ⊢
    have e := hrun pre ([44, 32] ++ joinL [44, 32] (p2 :: ps)) (f - n) pre.length acc
    rw [show ([32] : List Int) ++ p ++ ([44, 32] ++ joinL [44, 32] (p2 :: ps)) = 32 :: (p ++ ([44, 32] ++ joinL [44, 32] (p2 :: ps))) by simp] at e
    rw [List.length_append, List.length_singleton] at hn
    have hl : (32 :: (p ++ ([44, 32] ++ joinL [44, 32] (p2 :: ps)))).length = 1 + p.length + 1 + (32 :: joinL [44, 32] (p2 :: ps)).length := by simp; omega
    rw [hl] at hf
    rw [show f - n + n = f by omega] at e
    obtain ⟨g, hg⟩ : ∃ g, f - n = g + 1 := ⟨f - n - 1, by omega⟩
    have hx : pre ++ 32 :: (p ++ ([44, 32] ++ joinL [44, 32] (p2 :: ps))) = (pre ++ (32 :: p)) ++ 44 :: (32 :: joinL [44, 32] (p2 :: ps)) := by simp
    have hx2 : pre ++ 32 :: (p ++ ([44, 32] ++ joinL [44, 32] (p2 :: ps))) = (pre ++ (32 :: p) ++ [44]) ++ 32 :: joinL [44, 32] (p2 :: ps) := by simp
    have hgd : (pre ++ 32 :: (p ++ ([44, 32] ++ joinL [44, 32] (p2 :: ps)))).getD (pre.length + (([32] : List Int) ++ p).length) 0 = 44 := by
      rw [hx, show pre.length + (([32] : List Int) ++ p).length = (pre ++ (32 :: p)).length by simp]
      exact getD_app _ _ _
    obtain ⟨qs, h1, h2⟩ := splN_join ps p2 (pre ++ (32 :: p) ++ [44]) g (acc ++ [pieceOf (pre ++ 32 :: (p ++ ([44, 32] ++ joinL [44, 32] (p2 :: ps)))) pre.length (pre.length + (([32] : List Int) ++ p).length)]) (fun q hq => hp q (List.mem_cons_of_mem _ hq)) (by omega)
    refine ⟨pieceOf (pre ++ 32 :: (p ++ ([44, 32] ++ joinL [44, 32] (p2 :: ps)))) pre.length (pre.length + (([32] : List Int) ++ p).length) :: qs, ?_, ?_⟩
    · rw [e, hg, splN, if_neg (by rw [hx]; simp), hgd, if_neg (by decide), if_neg (by decide), if_neg (by decide), if_pos rfl]
      rw [← hx2, show List.length (pre ++ (32 :: p) ++ [44]) = pre.length + (([32] : List Int) ++ p).length + 1 by simp; omega] at h1
      rw [h1]
      simp
    · rw [List.map_cons, h2]
      congr 1
      unfold pieceOf subL
      rw [List.drop_append_of_le_length (Nat.le_refl _), List.drop_length, List.nil_append]
      rw [show pre.length + (([32] : List Int) ++ p).length - pre.length = (32 :: p).length by simp, show 32 :: (p ++ ([44, 32] ++ joinL [44, 32] (p2 :: ps))) = (32 :: p) ++ ([44, 32] ++ joinL [44, 32] (p2 :: ps)) by simp, List.take_left']
      · rw [trim_cons_blank, ht.trim]
      · rfl
end Go.Proofs.YtfhbpgickkibmaaGreatDoor
namespace Go.Proofs.YtfhbpgickkibmaaGreatDoor
open Go.RowKit

theorem skip_pre {p : Int → Bool} {a r : List Int} {c : Int} (h : ∀ x ∈ a, p x = true) (hc : p c = false) : skipTo p (a ++ c :: r) 0 = a.length := by
  unfold skipTo
  rw [List.drop_zero, List.takeWhile_append_of_pos h, List.takeWhile_cons, if_neg (by rw [hc]; decide), List.append_nil, Nat.zero_add]
theorem skip_all {p : Int → Bool} {a : List Int} (h : ∀ x ∈ a, p x = true) : skipTo p a 0 = a.length := by
  unfold skipTo
  have h2 := List.takeWhile_append_of_pos (l₂ := []) h
  rw [List.append_nil, List.takeWhile_nil, List.append_nil] at h2
  rw [List.drop_zero, h2, Nat.zero_add]
theorem skip_at {p : Int → Bool} (a : List Int) (c : Int) (r : List Int) (hc : p c = false) : skipTo p (a ++ c :: r) a.length = a.length :=
  skip_no (by simp) (by rw [getD_app]; exact hc)
theorem tok_blank {c : Int} (h : isTok c = true) : isBlank c = false := by
  cases hb : isBlank c with
  | false => rfl
  | true =>
    unfold isBlank at hb
    rw [Bool.or_eq_true, beq_iff_eq, beq_iff_eq] at hb
    rcases hb with rfl | rfl
    · exact absurd h (by decide)
    · exact absurd h (by decide)
/-- A name: token letters, small ones, at least one. -/
def Name (nm : List Int) : Prop := nm ≠ [] ∧ (∀ c ∈ nm, isTok c = true) ∧ lowS nm = nm
theorem take_pre (a r : List Int) : (a ++ r).take a.length = a := by simp
theorem fldL_nq {nm v : List Int} (hn : Name nm) (hv : clean v = true) : fldL (nq nm v) = some (nm, v) := by
  obtain ⟨h0, h1, h2⟩ := hn
  have hx : nq nm v = nm ++ 61 :: quoteL v := by unfold nq; simp
  have hx2 : nq nm v = (nm ++ [61]) ++ 34 :: (escL v ++ [34]) := by unfold nq quoteL; simp
  have hx3 : nq nm v = (nm ++ [61]) ++ (quoteL v ++ []) := by unfold nq; simp
  have s1 : skipTo isTok (nq nm v) 0 = nm.length := by rw [hx]; exact skip_pre h1 (by decide)
  have s2 : skipTo isBlank (nq nm v) nm.length = nm.length := by rw [hx]; exact skip_at _ _ _ (by decide)
  have s3 : skipTo isBlank (nq nm v) (nm.length + 1) = nm.length + 1 := by
    have h := skip_at (p := isBlank) (nm ++ [61]) 34 (escL v ++ [34]) (by decide)
    rw [← hx2, List.length_append] at h
    exact h
  have g1 : (nq nm v).getD nm.length 0 = 61 := by rw [hx]; exact getD_app _ _ _
  have g2 : (nq nm v).getD (nm.length + 1) 0 = 34 := by
    have h := getD_app (nm ++ [61]) 34 (escL v ++ [34])
    rw [← hx2, List.length_append] at h
    exact h
  have u1 : unq (nq nm v) ((nm.length + 1 : Nat) : Int) = (v, (nq nm v).length, 0) := by
    have h := unq_quote (nm ++ [61]) v [] hv
    rw [← hx3, List.length_append, List.length_singleton] at h
    rw [h]
    unfold nq
    simp
    omega
  have hl : (nq nm v).length = nm.length + 1 + (quoteL v).length := by rw [hx]; simp; omega
  have hq : 0 < (quoteL v).length := by unfold quoteL; simp
  have h00 : nm.length ≠ 0 := fun e => h0 (List.eq_nil_of_length_eq_zero e)
  unfold fldL
  rw [s1, s2, g1, s3, g2, u1, if_neg (by rintro (h | h | h); exact h00 h; omega; exact h rfl), if_pos ⟨by omega, rfl⟩, if_neg (by rintro (h | h); exact h rfl; exact h rfl)]
  rw [hx, take_pre, h2]
theorem fldL_tok {nm tk : List Int} (hn : Name nm) (ht0 : tk ≠ []) (ht : ∀ c ∈ tk, isTok c = true) : fldL (nm ++ 61 :: tk) = some (nm, tk) := by
  obtain ⟨h0, h1, h2⟩ := hn
  obtain ⟨d, r, rfl⟩ : ∃ d r, tk = d :: r := by
    cases tk with
    | nil => exact absurd rfl ht0
    | cons d r => exact ⟨d, r, rfl⟩
  have hd := ht d (by simp)
  have hx2 : nm ++ 61 :: d :: r = (nm ++ [61]) ++ d :: r := by simp
  have s1 : skipTo isTok (nm ++ 61 :: d :: r) 0 = nm.length := skip_pre h1 (by decide)
  have s2 : skipTo isBlank (nm ++ 61 :: d :: r) nm.length = nm.length := skip_at _ _ _ (by decide)
  have s3 : skipTo isBlank (nm ++ 61 :: d :: r) (nm.length + 1) = nm.length + 1 := by
    have h := skip_at (p := isBlank) (nm ++ [61]) d r (tok_blank hd)
    rw [← hx2, List.length_append] at h
    exact h
  have g1 : (nm ++ 61 :: d :: r).getD nm.length 0 = 61 := getD_app _ _ _
  have g2 : (nm ++ 61 :: d :: r).getD (nm.length + 1) 0 = d := by
    have h := getD_app (nm ++ [61]) d r
    rw [← hx2, List.length_append] at h
    exact h
  have h00 : nm.length ≠ 0 := fun e => h0 (List.eq_nil_of_length_eq_zero e)
  have hdr : (nm ++ 61 :: d :: r).drop (nm.length + 1) = d :: r := by
    rw [hx2, show nm.length + 1 = (nm ++ [61]).length by simp, List.drop_left]
  have hd34 : d ≠ 34 := fun e => by rw [e] at hd; exact absurd hd (by decide)
  unfold fldL
  rw [s1, s2, g1, s3, g2, hdr, if_neg (by rintro (h | h | h); exact h00 h; rw [List.length_append, List.length_cons] at h; omega; exact h rfl), if_neg (fun h => hd34 h.2), if_pos (by
    unfold isToken
    rw [skip_all ht]
    simp), take_pre, h2]
theorem addAll_back : ∀ (l : List (List Int × (List Int × List Int))) (acc : List (List Int × List Int)), (∀ x ∈ l, fldL x.1 = some x.2) → ((acc ++ l.map (·.2)).map (·.1)).Nodup → addAll acc (l.map (·.1)) = .ok (acc ++ l.map (·.2))
  | [], acc, _, _ => by simp [addAll]
  | x :: l, acc, h, hn => by
    have h1 := h x (by simp)
    have h2 : acc.any (fun q => q.1 == x.2.1) = false := by
      rw [List.any_eq_false]
      intro q hq
      rw [beq_iff_eq]
      intro e
      rw [List.map_cons, List.map_append, List.map_cons, List.nodup_append] at hn
      exact hn.2.2 q.1 (List.mem_map_of_mem hq) x.2.1 (by simp) e
    rw [List.map_cons, addAll, addF, h1]
    dsimp only
    rw [h2]
    have ih := addAll_back l (acc ++ [x.2]) (fun y hy => h y (by simp [hy])) (by rw [List.append_assoc]; exact hn)
    rw [show (if false = true then (Except.error 7 : Except Int (List (List Int × List Int))) else .ok (acc ++ [x.2])) = .ok (acc ++ [x.2]) from rfl]
    dsimp only
    rw [ih, List.append_assoc]
    rfl
theorem joinL_end : ∀ (ps : List (List Int)) (p : List Int), (∀ q ∈ p :: ps, Tight q) → ∃ c q, joinL [44, 32] (p :: ps) = q ++ [c] ∧ isBlank c = false
  | [], p, h => by rw [joinL_one]; exact (h p (by simp)).2
  | p2 :: ps, p, h => by
    obtain ⟨c, q, h1, h2⟩ := joinL_end ps p2 (fun q hq => h q (List.mem_cons_of_mem _ hq))
    exact ⟨c, p ++ ([44, 32] ++ q), by rw [joinL_cons, h1]; simp, h2⟩
theorem fieldsL_back (l : List (List Int × (List Int × List Int))) (hne : l ≠ []) (h : ∀ x ∈ l, fldL x.1 = some x.2 ∧ Closed x.1 ∧ Tight x.1) (hn : ((l.map (·.2)).map (·.1)).Nodup) : fieldsL (DIG ++ joinL [44, 32] (l.map (·.1))) = .ok (l.map (·.2)) := by
  obtain ⟨x, l', rfl⟩ : ∃ x l', l = x :: l' := by
    cases l with
    | nil => exact absurd rfl hne
    | cons x l' => exact ⟨x, l', rfl⟩
  have hct : ∀ q ∈ x.1 :: l'.map (·.1), Closed q ∧ Tight q := fun q hq => by
    rw [← List.map_cons (f := fun y : List Int × (List Int × List Int) => y.1)] at hq
    obtain ⟨y, hy, rfl⟩ := List.mem_map.1 hq
    exact (h y hy).2
  rw [List.map_cons (f := fun y : List Int × (List Int × List Int) => y.1)]
  obtain ⟨c, q, hj, hc⟩ := joinL_end (l'.map (·.1)) x.1 (fun q hq => (hct q hq).2)
  have ht : trimB (DIG ++ joinL [44, 32] (x.1 :: l'.map (·.1))) = DIG ++ joinL [44, 32] (x.1 :: l'.map (·.1)) :=
    Tight.trim ⟨⟨68, [105, 103, 101, 115, 116, 32] ++ joinL [44, 32] (x.1 :: l'.map (·.1)), rfl, by decide⟩, c, DIG ++ q, by rw [hj, List.append_assoc], hc⟩
  obtain ⟨qs, h1, h2⟩ := splN_join (l'.map (·.1)) x.1 [] ((32 :: joinL [44, 32] (x.1 :: l'.map (·.1))).length + 1) [] hct (Nat.le_refl _)
  rw [List.nil_append, List.length_nil] at h1
  have hs : splitL (32 :: joinL [44, 32] (x.1 :: l'.map (·.1))) 44 = ([] ++ qs, 0, 0) := by
    unfold splitL
    rw [if_neg (by decide)]
    exact h1
  have ha := addAll_back (x :: l') [] (fun y hy => (h y hy).1) (by rw [List.nil_append]; exact hn)
  unfold fieldsL
  rw [ht, show (DIG ++ joinL [44, 32] (x.1 :: l'.map (·.1))).drop 6 = 32 :: joinL [44, 32] (x.1 :: l'.map (·.1)) from rfl, hs]
  rw [if_neg (by
    rintro (h3 | h3 | h3)
    · rw [List.length_append] at h3
      have : DIG.length = 7 := rfl
      omega
    · exact h3 rfl
    · exact absurd h3 (by show ¬ (isBlank 32 = false); decide)), if_neg (fun h3 => h3 rfl), List.nil_append, h2]
  rw [List.map_cons, List.nil_append] at ha
  exact ha
end Go.Proofs.YtfhbpgickkibmaaGreatDoor
namespace Go.Proofs.YtfhbpgickkibmaaGreatDoor
open Go.RowKit

def Safe (p : List Int) : Prop := ∀ c ∈ p, c ≠ 34 ∧ c ≠ 60 ∧ c ≠ 62 ∧ c ≠ 44
/-- What the division and the reading ask of a piece. -/
def Good (x : List Int × (List Int × List Int)) : Prop := fldL x.1 = some x.2 ∧ Closed x.1 ∧ Tight x.1
theorem good_nq {nm v : List Int} (hn : Name nm) (hs : Safe nm) (hv : clean v = true) : Good (nq nm v, (nm, v)) := by
  refine ⟨fldL_nq hn hv, ?_, ?_⟩
  · exact ((Closed.safe hs).append (Closed.one (c := 61) (by decide) (by decide) (by decide) (by decide))).append (Closed.quote hv)
  · obtain ⟨h0, h1, _⟩ := hn
    obtain ⟨d, r, rfl⟩ : ∃ d r, nm = d :: r := by
      cases nm with
      | nil => exact absurd rfl h0
      | cons d r => exact ⟨d, r, rfl⟩
    exact ⟨⟨d, r ++ [61] ++ quoteL v, by unfold nq; simp, tok_blank (h1 d (by simp))⟩, 34, (d :: r) ++ [61] ++ (34 :: escL v), by unfold nq quoteL; simp, by decide⟩
theorem good_tok {nm tk q : List Int} {d : Int} (hn : Name nm) (hs : Safe nm) (ht : tk = q ++ [d]) (hk : ∀ c ∈ tk, isTok c = true) (hs2 : Safe tk) : Good (nm ++ 61 :: tk, (nm, tk)) := by
  refine ⟨fldL_tok hn (by rw [ht]; simp) hk, ?_, ?_⟩
  · have h := ((Closed.safe hs).append (Closed.one (c := 61) (by decide) (by decide) (by decide) (by decide))).append (Closed.safe hs2)
    rwa [List.append_assoc, List.singleton_append] at h
  · obtain ⟨h0, h1, _⟩ := hn
    obtain ⟨e, r, rfl⟩ : ∃ e r, nm = e :: r := by
      cases nm with
      | nil => exact absurd rfl h0
      | cons d r => exact ⟨d, r, rfl⟩
    exact ⟨⟨e, r ++ 61 :: tk, by simp, tok_blank (h1 e (by simp))⟩, d, (e :: r) ++ 61 :: q, by rw [ht]; simp, tok_blank (hk d (by rw [ht]; simp))⟩
def SHAU : List Int := [83, 72, 65, 45, 50, 53, 54]
theorem nm_realm : Name REALM ∧ Safe REALM := ⟨⟨by decide, by decide, by decide⟩, by unfold Safe; decide⟩
theorem nm_nonce : Name NONCE ∧ Safe NONCE := ⟨⟨by decide, by decide, by decide⟩, by unfold Safe; decide⟩
theorem nm_opaque : Name OPAQUE ∧ Safe OPAQUE := ⟨⟨by decide, by decide, by decide⟩, by unfold Safe; decide⟩
theorem nm_qop : Name QOP ∧ Safe QOP := ⟨⟨by decide, by decide, by decide⟩, by unfold Safe; decide⟩
theorem nm_alg : Name ALG ∧ Safe ALG := ⟨⟨by decide, by decide, by decide⟩, by unfold Safe; decide⟩
theorem nm_user : Name USER ∧ Safe USER := ⟨⟨by decide, by decide, by decide⟩, by unfold Safe; decide⟩
theorem nm_uri : Name URI ∧ Safe URI := ⟨⟨by decide, by decide, by decide⟩, by unfold Safe; decide⟩
theorem nm_resp : Name RESP ∧ Safe RESP := ⟨⟨by decide, by decide, by decide⟩, by unfold Safe; decide⟩
theorem nm_cnonce : Name CNONCE ∧ Safe CNONCE := ⟨⟨by decide, by decide, by decide⟩, by unfold Safe; decide⟩
theorem nm_nc : Name NC ∧ Safe NC := ⟨⟨by decide, by decide, by decide⟩, by unfold Safe; decide⟩
theorem g_alg : Good (ALGP, (ALG, SHAU)) := good_tok (q := [83, 72, 65, 45, 50, 53]) (d := 54) nm_alg.1 nm_alg.2 rfl (by decide) (by unfold Safe; decide)
theorem hex_fin : ∀ k : Fin 16, isTok (hexC (k.val : Int)) = true ∧ digOk (hexC (k.val : Int)) = true ∧ digV (hexC (k.val : Int)) = (k.val : Int) ∧ (hexC (k.val : Int) ≠ 34 ∧ hexC (k.val : Int) ≠ 60 ∧ hexC (k.val : Int) ≠ 62 ∧ hexC (k.val : Int) ≠ 44) := by decide
theorem hex_one {n : Int} (h0 : 0 ≤ n) (h1 : n < 16) : isTok (hexC n) = true ∧ digOk (hexC n) = true ∧ digV (hexC n) = n ∧ (hexC n ≠ 34 ∧ hexC n ≠ 60 ∧ hexC n ≠ 62 ∧ hexC n ≠ 44) := by
  obtain ⟨k, rfl⟩ := Int.eq_ofNat_of_zero_le h0
  exact hex_fin ⟨k, by omega⟩
theorem hex8_all {P : Int → Prop} (k : Int) (h : ∀ n, 0 ≤ n → n < 16 → P (hexC n)) : ∀ c ∈ hex8 k, P c := fun c hc => by
  unfold hex8 at hc
  simp only [List.mem_cons, List.not_mem_nil, or_false] at hc
  rcases hc with rfl | rfl | rfl | rfl | rfl | rfl | rfl | rfl <;> exact h _ (by omega) (by omega)
theorem g_nc (k : Int) : Good (NCE ++ hex8 k, (NC, hex8 k)) :=
  good_tok (q := (hex8 k).take 7) (d := hexC (k % 16)) nm_nc.1 nm_nc.2 rfl (hex8_all k fun n h0 h1 => (hex_one h0 h1).1) (hex8_all k fun n h0 h1 => (hex_one h0 h1).2.2.2)
theorem g_qopk (g : Bool) : Good (QOPE ++ (if g = true then AUTHI else AUTH), (QOP, if g = true then AUTHI else AUTH)) := by
  cases g
  · exact good_tok (q := [97, 117, 116]) (d := 104) nm_qop.1 nm_qop.2 rfl (by decide) (by unfold Safe; decide)
  · exact good_tok (q := [97, 117, 116, 104, 45, 105, 110]) (d := 116) nm_qop.1 nm_qop.2 rfl (by decide) (by unfold Safe; decide)
theorem hex8_num (k : Int) (h0 : 0 ≤ k) (h1 : k ≤ 4294967295) : goodU (hex8 k) = true ∧ numL (unL (hex8 k) 4) = k := by
  have hd := fun (n : Int) (a : 0 ≤ n) (b : n < 16) => (hex_one a b).2.2.1
  constructor
  · unfold goodU
    rw [show (hex8 k).length = 8 from rfl]
    rw [Bool.and_eq_true]
    refine ⟨by decide, ?_⟩
    rw [List.all_eq_true]
    exact hex8_all k fun n a b => (hex_one a b).2.1
  · show (((0 * 256 + (digV (hexC (k / 268435456 % 16)) * 16 + digV (hexC (k / 16777216 % 16)))) * 256 + (digV (hexC (k / 1048576 % 16)) * 16 + digV (hexC (k / 65536 % 16)))) * 256 + (digV (hexC (k / 4096 % 16)) * 16 + digV (hexC (k / 256 % 16)))) * 256 + (digV (hexC (k / 16 % 16)) * 16 + digV (hexC (k % 16))) = k
    rw [hd _ (by omega) (by omega), hd _ (by omega) (by omega), hd _ (by omega) (by omega), hd _ (by omega) (by omega), hd _ (by omega) (by omega), hd _ (by omega) (by omega), hd _ (by omega) (by omega), hd _ (by omega) (by omega)]
    omega
theorem back_cr (c : Cr) (h0 : 0 ≤ c.k) (h1 : c.k ≤ 4294967295) (h : cleanCr c = true) : parseCr (DIG ++ joinL [44, 32] (partsCr c)) = .ok c := by
  obtain ⟨u, r, n, i, p, c, o, k, g⟩ := c
  unfold cleanCr at h
  simp only [Bool.and_eq_true] at h
  obtain ⟨hu, hr, hn, hi, hp, hc, ho⟩ := h
  have hn8 := hex8_num k h0 h1
  have gu : Good (nq USER u, (USER, u)) := good_nq nm_user.1 nm_user.2 hu
  have gr : Good (nq REALM r, (REALM, r)) := good_nq nm_realm.1 nm_realm.2 hr
  have gn : Good (nq NONCE n, (NONCE, n)) := good_nq nm_nonce.1 nm_nonce.2 hn
  have gi : Good (nq URI i, (URI, i)) := good_nq nm_uri.1 nm_uri.2 hi
  have gp : Good (nq RESP p, (RESP, p)) := good_nq nm_resp.1 nm_resp.2 hp
  have gc : Good (nq CNONCE c, (CNONCE, c)) := good_nq nm_cnonce.1 nm_cnonce.2 hc
  have go : Good (nq OPAQUE o, (OPAQUE, o)) := good_nq nm_opaque.1 nm_opaque.2 ho
  by_cases hO : o = []
  · subst hO
    have hF := fieldsL_back [(nq USER u, (USER, u)), (nq REALM r, (REALM, r)), (nq NONCE n, (NONCE, n)), (nq URI i, (URI, i)), (nq RESP p, (RESP, p)), (ALGP, (ALG, SHAU)), (nq CNONCE c, (CNONCE, c)), (QOPE ++ (if g = true then AUTHI else AUTH), (QOP, if g = true then AUTHI else AUTH)), (NCE ++ hex8 k, (NC, hex8 k))] (by simp) (by
      simp only [List.forall_mem_cons]
      exact ⟨gu, gr, gn, gi, gp, g_alg, gc, g_qopk g, g_nc k, fun x hx => by cases hx⟩) (by simp only [List.map_cons, List.map_nil]; decide)
    have hp : partsCr ⟨u, r, n, i, p, c, [], k, g⟩ = [(nq USER u, (USER, u)), (nq REALM r, (REALM, r)), (nq NONCE n, (NONCE, n)), (nq URI i, (URI, i)), (nq RESP p, (RESP, p)), (ALGP, (ALG, SHAU)), (nq CNONCE c, (CNONCE, c)), (QOPE ++ (if g = true then AUTHI else AUTH), (QOP, if g = true then AUTHI else AUTH)), (NCE ++ hex8 k, (NC, hex8 k))].map (·.1) := rfl
    have hms : missing [(USER, u), (REALM, r), (NONCE, n), (URI, i), (RESP, p), (ALG, SHAU), (CNONCE, c), (QOP, if g = true then AUTHI else AUTH), (NC, hex8 k)] = false := rfl
    have hnc : gotF [(USER, u), (REALM, r), (NONCE, n), (URI, i), (RESP, p), (ALG, SHAU), (CNONCE, c), (QOP, if g = true then AUTHI else AUTH), (NC, hex8 k)] NC = hex8 k := rfl
    unfold parseCr
    rw [hp, hF]
    show (if missing [(USER, u), (REALM, r), (NONCE, n), (URI, i), (RESP, p), (ALG, SHAU), (CNONCE, c), (QOP, if g = true then AUTHI else AUTH), (NC, hex8 k)] = true then .error 8 else if lowS (gotF [(USER, u), (REALM, r), (NONCE, n), (URI, i), (RESP, p), (ALG, SHAU), (CNONCE, c), (QOP, if g = true then AUTHI else AUTH), (NC, hex8 k)] ALG) ≠ SHA then .error 15 else if gotF [(USER, u), (REALM, r), (NONCE, n), (URI, i), (RESP, p), (ALG, SHAU), (CNONCE, c), (QOP, if g = true then AUTHI else AUTH), (NC, hex8 k)] QOP ≠ AUTHI ∧ gotF [(USER, u), (REALM, r), (NONCE, n), (URI, i), (RESP, p), (ALG, SHAU), (CNONCE, c), (QOP, if g = true then AUTHI else AUTH), (NC, hex8 k)] QOP ≠ AUTH then .error 15
      else if goodU (gotF [(USER, u), (REALM, r), (NONCE, n), (URI, i), (RESP, p), (ALG, SHAU), (CNONCE, c), (QOP, if g = true then AUTHI else AUTH), (NC, hex8 k)] NC) = false ∨ (gotF [(USER, u), (REALM, r), (NONCE, n), (URI, i), (RESP, p), (ALG, SHAU), (CNONCE, c), (QOP, if g = true then AUTHI else AUTH), (NC, hex8 k)] NC).length / 2 ≠ 4 then .error 5
      else .ok ⟨gotF [(USER, u), (REALM, r), (NONCE, n), (URI, i), (RESP, p), (ALG, SHAU), (CNONCE, c), (QOP, if g = true then AUTHI else AUTH), (NC, hex8 k)] USER, gotF [(USER, u), (REALM, r), (NONCE, n), (URI, i), (RESP, p), (ALG, SHAU), (CNONCE, c), (QOP, if g = true then AUTHI else AUTH), (NC, hex8 k)] REALM, gotF [(USER, u), (REALM, r), (NONCE, n), (URI, i), (RESP, p), (ALG, SHAU), (CNONCE, c), (QOP, if g = true then AUTHI else AUTH), (NC, hex8 k)] NONCE, gotF [(USER, u), (REALM, r), (NONCE, n), (URI, i), (RESP, p), (ALG, SHAU), (CNONCE, c), (QOP, if g = true then AUTHI else AUTH), (NC, hex8 k)] URI, gotF [(USER, u), (REALM, r), (NONCE, n), (URI, i), (RESP, p), (ALG, SHAU), (CNONCE, c), (QOP, if g = true then AUTHI else AUTH), (NC, hex8 k)] RESP, gotF [(USER, u), (REALM, r), (NONCE, n), (URI, i), (RESP, p), (ALG, SHAU), (CNONCE, c), (QOP, if g = true then AUTHI else AUTH), (NC, hex8 k)] CNONCE, gotF [(USER, u), (REALM, r), (NONCE, n), (URI, i), (RESP, p), (ALG, SHAU), (CNONCE, c), (QOP, if g = true then AUTHI else AUTH), (NC, hex8 k)] OPAQUE, numL (unL (gotF [(USER, u), (REALM, r), (NONCE, n), (URI, i), (RESP, p), (ALG, SHAU), (CNONCE, c), (QOP, if g = true then AUTHI else AUTH), (NC, hex8 k)] NC) 4), gotF [(USER, u), (REALM, r), (NONCE, n), (URI, i), (RESP, p), (ALG, SHAU), (CNONCE, c), (QOP, if g = true then AUTHI else AUTH), (NC, hex8 k)] QOP == AUTHI⟩) = (.ok ⟨u, r, n, i, p, c, [], k, g⟩ : Except Int Cr)
    rw [if_neg (by rw [hms]; decide), if_neg (fun h => h rfl), if_neg (by cases g; exact fun h => h.2 rfl; exact fun h => h.1 rfl), hnc, if_neg (by
      rintro (h | h)
      · rw [hn8.1] at h; cases h
      · exact h (by rw [show (hex8 k).length = 8 from rfl])), hn8.2]
    cases g <;> rfl
  · skip
    have hF := fieldsL_back [(nq USER u, (USER, u)), (nq REALM r, (REALM, r)), (nq NONCE n, (NONCE, n)), (nq URI i, (URI, i)), (nq RESP p, (RESP, p)), (ALGP, (ALG, SHAU)), (nq CNONCE c, (CNONCE, c)), (QOPE ++ (if g = true then AUTHI else AUTH), (QOP, if g = true then AUTHI else AUTH)), (NCE ++ hex8 k, (NC, hex8 k)), (nq OPAQUE o, (OPAQUE, o))] (by simp) (by
      simp only [List.forall_mem_cons]
      exact ⟨gu, gr, gn, gi, gp, g_alg, gc, g_qopk g, g_nc k, go, fun x hx => by cases hx⟩) (by simp only [List.map_cons, List.map_nil]; decide)
    have hp : partsCr ⟨u, r, n, i, p, c, o, k, g⟩ = [(nq USER u, (USER, u)), (nq REALM r, (REALM, r)), (nq NONCE n, (NONCE, n)), (nq URI i, (URI, i)), (nq RESP p, (RESP, p)), (ALGP, (ALG, SHAU)), (nq CNONCE c, (CNONCE, c)), (QOPE ++ (if g = true then AUTHI else AUTH), (QOP, if g = true then AUTHI else AUTH)), (NCE ++ hex8 k, (NC, hex8 k)), (nq OPAQUE o, (OPAQUE, o))].map (·.1) := by unfold partsCr; rw [if_neg hO]; rfl
    have hms : missing [(USER, u), (REALM, r), (NONCE, n), (URI, i), (RESP, p), (ALG, SHAU), (CNONCE, c), (QOP, if g = true then AUTHI else AUTH), (NC, hex8 k), (OPAQUE, o)] = false := rfl
    have hnc : gotF [(USER, u), (REALM, r), (NONCE, n), (URI, i), (RESP, p), (ALG, SHAU), (CNONCE, c), (QOP, if g = true then AUTHI else AUTH), (NC, hex8 k), (OPAQUE, o)] NC = hex8 k := rfl
    unfold parseCr
    rw [hp, hF]
    show (if missing [(USER, u), (REALM, r), (NONCE, n), (URI, i), (RESP, p), (ALG, SHAU), (CNONCE, c), (QOP, if g = true then AUTHI else AUTH), (NC, hex8 k), (OPAQUE, o)] = true then .error 8 else if lowS (gotF [(USER, u), (REALM, r), (NONCE, n), (URI, i), (RESP, p), (ALG, SHAU), (CNONCE, c), (QOP, if g = true then AUTHI else AUTH), (NC, hex8 k), (OPAQUE, o)] ALG) ≠ SHA then .error 15 else if gotF [(USER, u), (REALM, r), (NONCE, n), (URI, i), (RESP, p), (ALG, SHAU), (CNONCE, c), (QOP, if g = true then AUTHI else AUTH), (NC, hex8 k), (OPAQUE, o)] QOP ≠ AUTHI ∧ gotF [(USER, u), (REALM, r), (NONCE, n), (URI, i), (RESP, p), (ALG, SHAU), (CNONCE, c), (QOP, if g = true then AUTHI else AUTH), (NC, hex8 k), (OPAQUE, o)] QOP ≠ AUTH then .error 15
      else if goodU (gotF [(USER, u), (REALM, r), (NONCE, n), (URI, i), (RESP, p), (ALG, SHAU), (CNONCE, c), (QOP, if g = true then AUTHI else AUTH), (NC, hex8 k), (OPAQUE, o)] NC) = false ∨ (gotF [(USER, u), (REALM, r), (NONCE, n), (URI, i), (RESP, p), (ALG, SHAU), (CNONCE, c), (QOP, if g = true then AUTHI else AUTH), (NC, hex8 k), (OPAQUE, o)] NC).length / 2 ≠ 4 then .error 5
      else .ok ⟨gotF [(USER, u), (REALM, r), (NONCE, n), (URI, i), (RESP, p), (ALG, SHAU), (CNONCE, c), (QOP, if g = true then AUTHI else AUTH), (NC, hex8 k), (OPAQUE, o)] USER, gotF [(USER, u), (REALM, r), (NONCE, n), (URI, i), (RESP, p), (ALG, SHAU), (CNONCE, c), (QOP, if g = true then AUTHI else AUTH), (NC, hex8 k), (OPAQUE, o)] REALM, gotF [(USER, u), (REALM, r), (NONCE, n), (URI, i), (RESP, p), (ALG, SHAU), (CNONCE, c), (QOP, if g = true then AUTHI else AUTH), (NC, hex8 k), (OPAQUE, o)] NONCE, gotF [(USER, u), (REALM, r), (NONCE, n), (URI, i), (RESP, p), (ALG, SHAU), (CNONCE, c), (QOP, if g = true then AUTHI else AUTH), (NC, hex8 k), (OPAQUE, o)] URI, gotF [(USER, u), (REALM, r), (NONCE, n), (URI, i), (RESP, p), (ALG, SHAU), (CNONCE, c), (QOP, if g = true then AUTHI else AUTH), (NC, hex8 k), (OPAQUE, o)] RESP, gotF [(USER, u), (REALM, r), (NONCE, n), (URI, i), (RESP, p), (ALG, SHAU), (CNONCE, c), (QOP, if g = true then AUTHI else AUTH), (NC, hex8 k), (OPAQUE, o)] CNONCE, gotF [(USER, u), (REALM, r), (NONCE, n), (URI, i), (RESP, p), (ALG, SHAU), (CNONCE, c), (QOP, if g = true then AUTHI else AUTH), (NC, hex8 k), (OPAQUE, o)] OPAQUE, numL (unL (gotF [(USER, u), (REALM, r), (NONCE, n), (URI, i), (RESP, p), (ALG, SHAU), (CNONCE, c), (QOP, if g = true then AUTHI else AUTH), (NC, hex8 k), (OPAQUE, o)] NC) 4), gotF [(USER, u), (REALM, r), (NONCE, n), (URI, i), (RESP, p), (ALG, SHAU), (CNONCE, c), (QOP, if g = true then AUTHI else AUTH), (NC, hex8 k), (OPAQUE, o)] QOP == AUTHI⟩) = (.ok ⟨u, r, n, i, p, c, o, k, g⟩ : Except Int Cr)
    rw [if_neg (by rw [hms]; decide), if_neg (fun h => h rfl), if_neg (by cases g; exact fun h => h.2 rfl; exact fun h => h.1 rfl), hnc, if_neg (by
      rintro (h | h)
      · rw [hn8.1] at h; cases h
      · exact h (by rw [show (hex8 k).length = 8 from rfl])), hn8.2]
    cases g <;> rfl
theorem joinL_byE {sep : List Int} (hs : By sep) : ∀ l : List (List Int), (∀ p ∈ l, By p) → By (joinL sep l)
  | [], _ => fun x hx => by cases hx
  | [a], h => by rw [joinL_one]; exact h a (by simp)
  | a :: b :: r, h => by
    have ih := joinL_byE hs (b :: r) (fun p hp => h p (List.mem_cons_of_mem _ hp))
    rw [joinL_cons]
    intro x hx
    rcases List.mem_append.1 hx with h1 | h1
    · exact h a (by simp) x h1
    · rcases List.mem_append.1 h1 with h2 | h2
      · exact hs x h2
      · exact ih x h2
theorem joinL_len2 (sep : List Int) : ∀ l : List (List Int), (joinL sep l).length ≤ (l.map fun p => p.length + sep.length).sum
  | [] => by rw [joinL_nil]; simp
  | [a] => by rw [joinL_one]; simp
  | a :: b :: r => by
    have ih := joinL_len2 sep (b :: r)
    rw [joinL_cons, List.length_append, List.length_append, List.map_cons, List.sum_cons]
    omega
theorem nq_by {nm v : List Int} (hn : By nm) (hv : By v) : By (nq nm v) := fun x hx => by
  unfold nq at hx
  rcases List.mem_append.1 hx with h1 | h1
  · rcases List.mem_append.1 h1 with h2 | h2
    · exact hn x h2
    · rw [List.mem_singleton] at h2; subst h2; decide
  · exact quoteL_by hv x h1
end Go.Proofs.YtfhbpgickkibmaaGreatDoor
