/- Plain law: what is printed is divided and read back. -/
import Derived.Test.YtfhbpgickkibmaaDoorPj
namespace Go.Proofs.YtfhbpgickkibmaaDoor
open Go.RowKit

theorem ctl_range {c : Int} (h : isCtl c = false) (h2 : c = 34 ∨ c = 92) : 32 ≤ c ∧ c ≤ 126 := by omega
theorem uqL_esc (r : List Int) : ∀ (xs : List Int) (i : Nat) (acc : List Int), clean xs = true → uqL (escL xs ++ 34 :: r) i acc = (acc ++ xs, i + (escL xs).length + 1, 0)
  | [], i, acc, _ => by
    show uqL (34 :: r) i acc = _
    unfold uqL
    rw [if_pos rfl]
    simp [escL]
  | c :: xs, i, acc, h => by
    have hc : isCtl c = false ∧ clean xs = true := by
      unfold clean at h ⊢
      rw [List.all_cons, Bool.and_eq_true] at h
      exact ⟨by simpa using h.1, h.2⟩
    have ih := uqL_esc r xs
    by_cases hq : c = 34 ∨ c = 92
    · have he : escL (c :: xs) = 92 :: c :: escL xs := by
        show escC c ++ escL xs = _
        unfold escC
        rw [if_pos hq]; rfl
      rw [he, List.cons_append, List.cons_append]
      rw [uqL.eq_def]
      dsimp only
      rw [if_neg (by decide), if_pos rfl, if_pos (ctl_range hc.1 hq), ih _ _ hc.2]
      simp only [List.length_cons, List.append_assoc, List.singleton_append]
      congr 2
      omega
    · have he : escL (c :: xs) = c :: escL xs := by
        show escC c ++ escL xs = _
        unfold escC
        rw [if_neg hq]; rfl
      rw [he, List.cons_append]
      rw [uqL.eq_def]
      dsimp only
      rw [if_neg (fun e => hq (.inl e)), if_neg (fun e => hq (.inr e)), if_neg (by rw [hc.1]; decide), ih _ _ hc.2]
      simp only [List.length_cons, List.append_assoc, List.singleton_append]
      congr 2
      omega
theorem getD_app (pre : List Int) (c : Int) (r : List Int) : (pre ++ c :: r).getD pre.length 0 = c := by
  rw [List.getD_eq_getElem?_getD, List.getElem?_append_right (Nat.le_refl _), Nat.sub_self]; rfl
theorem unq_quote (pre v post : List Int) (h : clean v = true) : unq (pre ++ (quoteL v ++ post)) (pre.length : Nat) = (v, pre.length + (quoteL v).length, 0) := by
  have hq : quoteL v ++ post = 34 :: (escL v ++ 34 :: post) := by unfold quoteL; simp
  rw [hq]
  unfold unq
  rw [if_neg (by simp; omega), if_neg (by
    rintro (h1 | h1)
    · rw [List.length_append, List.length_cons] at h1; omega
    · rw [Int.toNat_natCast, getD_app] at h1
      exact h1 rfl), Int.toNat_natCast, show pre ++ 34 :: (escL v ++ 34 :: post) = (pre ++ [34]) ++ (escL v ++ 34 :: post) by simp, List.drop_append_of_le_length (by simp)]
  rw [show List.drop (pre.length + 1) (pre ++ [34]) = [] by simp, List.nil_append, uqL_esc post v _ _ h]
  unfold quoteL
  simp
  omega
/-- A piece that the division walks through without a mark. -/
def Closed (p : List Int) : Prop := ∃ n, n ≤ p.length ∧ ∀ (pre post : List Int) (f b : Nat) (acc : List (Nat × List Int)), splN (pre ++ (p ++ post)) 44 (f + n) pre.length b acc = splN (pre ++ (p ++ post)) 44 f (pre.length + p.length) b acc
theorem Closed.nil : Closed [] := ⟨0, Nat.le_refl _, fun pre post f b acc => rfl⟩
theorem Closed.append {p q : List Int} (hp : Closed p) (hq : Closed q) : Closed (p ++ q) := by
  obtain ⟨n, hn, h1⟩ := hp
  obtain ⟨m, hm, h2⟩ := hq
  refine ⟨n + m, by rw [List.length_append]; omega, fun pre post f b acc => ?_⟩
  have e1 := h1 pre (q ++ post) (f + m) b acc
  have e2 := h2 (pre ++ p) post f b acc
  rw [List.append_assoc pre p, List.length_append] at e2
  rw [List.append_assoc p q post, List.length_append, show f + (n + m) = f + m + n by omega, e1, e2, Nat.add_assoc]
theorem Closed.one {c : Int} (h1 : c ≠ 34) (h2 : c ≠ 60) (h3 : c ≠ 62) (h4 : c ≠ 44) : Closed [c] :=
  ⟨1, Nat.le_refl _, fun pre post f b acc => by
    rw [splN]
    rw [if_neg (by simp), show [c] ++ post = c :: post from rfl, getD_app, if_neg h1, if_neg h2, if_neg h3, if_neg h4]
    rfl⟩
theorem Closed.safe : ∀ {p : List Int}, (∀ c ∈ p, c ≠ 34 ∧ c ≠ 60 ∧ c ≠ 62 ∧ c ≠ 44) → Closed p
  | [], _ => Closed.nil
  | c :: p, h => by
    have hc := h c (by simp)
    exact (Closed.one hc.1 hc.2.1 hc.2.2.1 hc.2.2.2).append (Closed.safe fun d hd => h d (by simp [hd]))
theorem Closed.quote {v : List Int} (h : clean v = true) : Closed (quoteL v) :=
  ⟨1, by unfold quoteL; simp, fun pre post f b acc => by
    have hu := unq_quote pre v post h
    have hg : (pre ++ (quoteL v ++ post)).getD pre.length 0 = 34 := by
      rw [show quoteL v ++ post = 34 :: (escL v ++ [34] ++ post) by unfold quoteL; simp]
      exact getD_app _ _ _
    have hl : 0 < (quoteL v).length := by unfold quoteL; simp
    rw [splN]
    rw [if_neg (by simp only [List.length_append]; omega), if_pos hg, hu, if_neg (fun h => h rfl)]⟩
theorem trim_cons_blank (p : List Int) : trimB (32 :: p) = trimB p := by
  unfold trimB ltrim
  rw [List.dropWhile_cons, if_pos (by decide)]
/-- A piece without blanks at its ends. -/
def Tight (p : List Int) : Prop := (∃ c q, p = c :: q ∧ isBlank c = false) ∧ ∃ c q, p = q ++ [c] ∧ isBlank c = false
theorem Tight.trim {p : List Int} (h : Tight p) : trimB p = p := by
  obtain ⟨⟨c, q, h1, hc⟩, d, r, h2, hd⟩ := h
  have hl : ltrim p = p := by rw [h1]; unfold ltrim; rw [List.dropWhile_cons, if_neg (by rw [hc]; decide)]
  unfold trimB
  rw [hl, h2]
  unfold rtrim
  rw [List.reverse_append, List.reverse_singleton, List.singleton_append, List.dropWhile_cons, if_neg (by rw [hd]; decide), List.reverse_cons, List.reverse_reverse]
theorem splN_join : ∀ (ps : List (List Int)) (p : List Int) (pre : List Int) (f : Nat) (acc : List (Nat × List Int)), (∀ q ∈ p :: ps, Closed q ∧ Tight q) → (32 :: joinL [44, 32] (p :: ps)).length + 1 ≤ f →
    ∃ qs : List (Nat × List Int), splN (pre ++ 32 :: joinL [44, 32] (p :: ps)) 44 f pre.length pre.length acc = (acc ++ qs, 0, 0) ∧ qs.map (·.2) = p :: ps
  | [], p, pre, f, acc, hp, hf => by
    obtain ⟨hc, ht⟩ := hp p (by simp)
    obtain ⟨n, hn, hrun⟩ := (Closed.one (c := 32) (by decide) (by decide) (by decide) (by decide)).append hc
    rw [joinL_one] at hf ⊢
    have e := hrun pre [] (f - n) pre.length acc
    rw [List.append_nil, List.singleton_append] at e
    rw [List.length_append, List.length_singleton] at hn
    rw [List.length_cons] at hf
    rw [show f - n + n = f by omega] at e
    obtain ⟨g, hg⟩ : ∃ g, f - n = g + 1 := ⟨f - n - 1, by omega⟩
    refine ⟨[pieceOf (pre ++ 32 :: p) pre.length (pre ++ 32 :: p).length], ?_, ?_⟩
    · rw [e, hg, splN, if_pos (by simp)]
    · show [(pieceOf (pre ++ 32 :: p) pre.length (pre ++ 32 :: p).length).2] = [p]
      unfold pieceOf subL
      rw [List.drop_append_of_le_length (Nat.le_refl _), List.drop_length, List.nil_append, List.take_of_length_le (by simp)]
      rw [trim_cons_blank, ht.trim]
  | p2 :: ps, p, pre, f, acc, hp, hf => by
    obtain ⟨hc, ht⟩ := hp p (by simp)
    obtain ⟨n, hn, hrun⟩ := (Closed.one (c := 32) (by decide) (by decide) (by decide) (by decide)).append hc
    rw [joinL_cons] at hf ⊢
    have e := hrun pre ([44, 32] ++ joinL [44, 32] (p2 :: ps)) (f - n) pre.length acc
    rw [show ([32] : List Int) ++ p ++ ([44, 32] ++ joinL [44, 32] (p2 :: ps)) = 32 :: (p ++ ([44, 32] ++ joinL [44, 32] (p2 :: ps))) by simp] at e
    rw [List.length_append, List.length_singleton] at hn
    have hl : (32 :: (p ++ ([44, 32] ++ joinL [44, 32] (p2 :: ps)))).length = 1 + p.length + 1 + (32 :: joinL [44, 32] (p2 :: ps)).length := by simp; omega
    rw [hl] at hf
    rw [show f - n + n = f by omega] at e
    obtain ⟨g, hg⟩ : ∃ g, f - n = g + 1 := ⟨f - n - 1, by omega⟩
    have hx : pre ++ 32 :: (p ++ ([44, 32] ++ joinL [44, 32] (p2 :: ps))) = (pre ++ (32 :: p)) ++ 44 :: (32 :: joinL [44, 32] (p2 :: ps)) := by simp
    have hx2 : pre ++ 32 :: (p ++ ([44, 32] ++ joinL [44, 32] (p2 :: ps))) = (pre ++ (32 :: p) ++ [44]) ++ 32 :: joinL [44, 32] (p2 :: ps) := by simp
    have hgd : (pre ++ 32 :: (p ++ ([44, 32] ++ joinL [44, 32] (p2 :: ps)))).getD (pre.length + (([32] : List Int) ++ p).length) 0 = 44 := by
      rw [hx, show pre.length + (([32] : List Int) ++ p).length = (pre ++ (32 :: p)).length by simp]
      exact getD_app _ _ _
    obtain ⟨qs, h1, h2⟩ := splN_join ps p2 (pre ++ (32 :: p) ++ [44]) g (acc ++ [pieceOf (pre ++ 32 :: (p ++ ([44, 32] ++ joinL [44, 32] (p2 :: ps)))) pre.length (pre.length + (([32] : List Int) ++ p).length)]) (fun q hq => hp q (List.mem_cons_of_mem _ hq)) (by omega)
    refine ⟨pieceOf (pre ++ 32 :: (p ++ ([44, 32] ++ joinL [44, 32] (p2 :: ps)))) pre.length (pre.length + (([32] : List Int) ++ p).length) :: qs, ?_, ?_⟩
    · rw [e, hg, splN, if_neg (by rw [hx]; simp), hgd, if_neg (by decide), if_neg (by decide), if_neg (by decide), if_pos rfl]
      rw [← hx2, show List.length (pre ++ (32 :: p) ++ [44]) = pre.length + (([32] : List Int) ++ p).length + 1 by simp; omega] at h1
      rw [h1]
      simp
    · rw [List.map_cons, h2]
      congr 1
      unfold pieceOf subL
      rw [List.drop_append_of_le_length (Nat.le_refl _), List.drop_length, List.nil_append]
      rw [show pre.length + (([32] : List Int) ++ p).length - pre.length = (32 :: p).length by simp, show 32 :: (p ++ ([44, 32] ++ joinL [44, 32] (p2 :: ps))) = (32 :: p) ++ ([44, 32] ++ joinL [44, 32] (p2 :: ps)) by simp, List.take_left']
      · rw [trim_cons_blank, ht.trim]
      · rfl
end Go.Proofs.YtfhbpgickkibmaaDoor
