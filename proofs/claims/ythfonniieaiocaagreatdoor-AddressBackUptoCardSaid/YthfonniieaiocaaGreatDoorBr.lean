/- Plain laws: an address text that is written is read back; what is read is in normal form. Plain laws: an address text that is read is in normal form; where an error lies. -/
import Derived.Test.YthfonniieaiocaaGreatDoorBp
set_option linter.unusedVariables false
set_option linter.unusedSimpArgs false
namespace Go.Proofs.YthfonniieaiocaaGreatDoor
open Go.RowKit

structure UriBy (u : Uri) : Prop where
  sc : By u.sc
  us : By u.us
  ho : By u.ho
  ps : PmBy u.ps
  hs : PmBy u.hs
structure UriN (u : Uri) : Prop where
  us : By u.us
  ps : LOK 1 u.ps
  pa : Asc u.ps
  hs : LOK 2 u.hs
  ha : Asc u.hs
  k : ((u.sc = SIPT ∨ u.sc = SIPST) ∧ hostL u.ho = some u.ho ∧ By u.ho ∧ 0 ≤ u.po ∧ u.po ≤ 65535 ∧ clean u.us = true) ∨ (u.sc = TELT ∧ u.ho = [] ∧ u.po = 0 ∧ u.hs = [] ∧ dialedL u.us = true)
theorem norm_ok {u n : Uri} (hb : UriBy u) (h : normL u = some n) : UriN n := by
  unfold normL at h
  dsimp only at h
  split at h
  · rename_i ps hs h1 h2
    obtain ⟨p1, p2⟩ := fldsL_ok hb.ps h1
    obtain ⟨q1, q2⟩ := fldsL_ok hb.hs h2
    split at h
    · rename_i hsc
      split at h
      · rename_i ho hh
        split at h
        · rename_i hp
          injection h with h
          subst h
          exact ⟨hb.us, p1, p2, q1, q2, .inl ⟨hsc, host_idem hh, host_by hh hb.ho, hp⟩⟩
        · cases h
      · cases h
    · split at h
      · rename_i hsc
        split at h
        · rename_i hp
          injection h with h
          subst h
          have h0 : hs = [] := by
            have := (fldsL_iff hb.hs).1 h2
            rw [hp.2.2.1] at this
            exact this.2
          exact ⟨hb.us, p1, p2, q1, q2, .inr ⟨hsc, rfl, rfl, h0, hp.2.2.2⟩⟩
        · cases h
      · cases h
  · cases h
theorem sc_low {s : List Int} (h : s = SIPT ∨ s = SIPST ∨ s = TELT) : lowS s = s := by rcases h with rfl | rfl | rfl <;> decide
theorem UriN.norm {n : Uri} (h : UriN n) : normL n = some n := by
  obtain ⟨sc, us, ho, po, ps, hs⟩ := n
  obtain ⟨hu, p1, p2, q1, q2, hk⟩ := h
  dsimp only at hu p1 p2 q1 q2 hk
  unfold normL
  dsimp only
  rw [fldsL_id p1 p2, fldsL_id q1 q2]
  dsimp only
  rcases hk with ⟨hsc, hh, _, hp⟩ | ⟨hsc, h1, h2, h3, h4⟩
  · have e : lowS sc = sc := sc_low (by rcases hsc with h | h <;> simp [h])
    rw [e, if_pos hsc, hh]
    dsimp only
    rw [if_pos hp]
  · subst hsc h1 h2 h3
    rw [sc_low (.inr (.inr rfl)), if_neg (by decide), if_pos rfl, if_pos ⟨rfl, rfl, rfl, h4⟩]
theorem norm_idem {u n : Uri} (hb : UriBy u) (h : normL u = some n) : normL n = some n := (norm_ok hb h).norm
/- Reading. -/
theorem seg_no64 {k : Int} {q : Pm} (h : FOK k q) : (64 : Int) ∉ fT k q := fun hm => by
  rcases fT_in h 64 hm with h | h
  · omega
  · unfold escX at h
    rw [Bool.or_eq_true] at h
    rcases h with h | h
    · simp at h
    · exact (inC_range h).2.2.2.2.2.2 rfl
theorem psT_no64 {ps : List Pm} (h : ∀ q ∈ ps, FOK 1 q) : (64 : Int) ∉ ps.flatMap pmT := fun hm => by
  obtain ⟨q, hq, hm⟩ := List.mem_flatMap.1 hm
  rw [pmT_eq] at hm
  rcases List.mem_cons.1 hm with h | hm
  · omega
  · exact seg_no64 (h q hq) hm
theorem hdsT_no64 : ∀ {hs : List Pm} {b : Bool}, (∀ q ∈ hs, FOK 2 q) → (64 : Int) ∉ hdsT hs b
  | [], _, _ => by simp [hdsT]
  | q :: hs, b, h => fun hm => by
    rw [show hdsT (q :: hs) b = (if b = true then [63] else [38]) ++ hdT q ++ hdsT hs false from rfl, hdT_eq (h q (by simp))] at hm
    rcases List.mem_append.1 hm with hm | hm
    · rcases List.mem_append.1 hm with hm | hm
      · cases b <;> simp at hm
      · exact seg_no64 (h q (by simp)) hm
    · exact hdsT_no64 (fun x hx => h x (by simp [hx])) hm
theorem decL_no {n : Nat} {c : Int} (h : isDig c = false) : c ∉ decL (n : Int) := fun hm => by
  have := List.all_eq_true.1 (dec_all n).1 c hm
  rw [h] at this; cases this
theorem host_no64 {h : List Int} (hF : HostF h) : (64 : Int) ∉ h := fun hm => by
  rcases hF with ⟨g, e, c⟩ | ⟨c, _⟩
  · subst e
    rcases List.mem_cons.1 hm with h | hm
    · omega
    · rcases List.mem_append.1 hm with hm | hm
      · rcases c _ hm with h | h
        · omega
        · have := hex_chars h; omega
      · simp at hm
  · exact (hostC_range (c _ hm)).2.2.2.1 rfl
def Behind (r : List Int) : Prop := r = [] ∨ r.getD 0 0 = 58 ∨ r.getD 0 0 = 59 ∨ r.getD 0 0 = 63
theorem host_end {h : List Int} (hF : HostF h) (p r : List Int) (hr : Behind r) : hostEnd (p ++ (h ++ r)) p.length = p.length + h.length := by
  unfold hostEnd
  rcases hF with ⟨g, e, c⟩ | ⟨c, ne⟩
  · subst e
    have e1 : p ++ (91 :: (g ++ [93]) ++ r) = p ++ ((91 :: g) ++ (93 :: r)) := by simp
    rw [if_pos (by rw [List.cons_append, atL_seg]; rfl), e1, until_seg (fun x hx => ?_) (.inr rfl)]
    · simp
      omega
    · rw [Bool.eq_false_iff]
      intro hm
      rw [List.contains_iff_mem, List.mem_singleton] at hm
      subst hm
      rcases List.mem_cons.1 hx with h | hx
      · omega
      · rcases c _ hx with h | h
        · omega
        · have := hex_chars h; omega
  · cases h with
    | nil => exact absurd rfl ne
    | cons d h =>
      have hd := hostC_range (c d (by simp))
      rw [if_neg, until_seg (fun x hx => ?_) ?_]
      · rcases hr with h | h | h | h
        · exact .inl h
        · right; rw [h]; rfl
        · right; rw [h]; rfl
        · right; rw [h]; rfl
      · rw [Bool.eq_false_iff]
        intro hm
        have := hostC_range (c x hx)
        rw [List.contains_iff_mem] at hm
        simp at hm
        omega
      · rw [List.cons_append, atL_seg]
        simp; omega
theorem dec_decn {n : Nat} (h : n ≤ 65535) : decnL (decL n) = ((n : Int), 0) := by
  obtain ⟨h1, h2, h3⟩ := dec_all n
  rw [decnL_ok h3 (by have := dec_len n 4 (by omega); omega) h1 (by rw [h2]; omega), h2]
theorem port_read {po : Int} (h0 : 0 ≤ po) (h1 : po ≤ 65535) (p r : List Int) (hr : r = [] ∨ r.getD 0 0 = 59 ∨ r.getD 0 0 = 63) :
    portL (p ++ ((if po = 0 then [] else [58] ++ decL po) ++ r)) p.length = .ok (po, p.length + (if po = 0 then [] else [58] ++ decL po).length) := by
  by_cases hp : po = 0
  · subst hp
    rw [if_pos rfl, List.nil_append]
    unfold portL
    have ha : ∀ c, (∀ d, d = 59 ∨ d = 63 → (d == c) = false) → atL (p ++ r) p.length c = false := fun c hc => by
      cases r with
      | nil => exact atL_end (by simp)
      | cons d r =>
        rw [atL_seg]
        rcases hr with h | h | h
        · cases h
        · exact hc d (.inl h)
        · exact hc d (.inr h)
    rw [if_neg (by rw [ha 58 (by rintro d (rfl | rfl) <;> rfl)]; decide), if_neg]
    · rfl
    · rintro ⟨hl, h59, h63⟩
      cases r with
      | nil => simp at hl
      | cons d r =>
        rw [atL_seg] at h59 h63
        rcases hr with h | h | h
        · cases h
        · rw [show d = 59 from h] at h59; cases h59
        · rw [show d = 63 from h] at h63; cases h63
  · rw [if_neg hp]
    obtain ⟨n, rfl⟩ := Int.eq_ofNat_of_zero_le h0
    have e : p ++ ([58] ++ decL (n : Int) ++ r) = (p ++ [58]) ++ (decL (n : Int) ++ r) := by simp
    have e2 : (p ++ [58]).length = p.length + 1 := by simp
    have hu : untilL ((p ++ [58]) ++ (decL (n : Int) ++ r)) (p ++ [58]).length [59, 63] = (p ++ [58]).length + (decL (n : Int)).length := by
      refine until_seg (fun c hc => ?_) ?_
      · rw [Bool.eq_false_iff]
        intro hm
        rw [List.contains_iff_mem] at hm
        simp at hm
        rcases hm with rfl | rfl
        · exact decL_no (by decide) hc
        · exact decL_no (by decide) hc
      · rcases hr with h | h | h
        · exact .inl h
        · right; rw [h]; rfl
        · right; rw [h]; rfl
    unfold portL
    rw [if_pos (by rw [List.append_assoc, List.singleton_append, atL_seg]; rfl), e, ← e2, hu]
    dsimp only
    rw [sub_seg, dec_decn (by omega)]
    dsimp only
    rw [if_neg (by decide), if_neg (by omega), e2]
    simp
    omega
theorem user_read {us : List Int} (hb : By us) (hc : clean us = true) (p r : List Int) (hr : (64 : Int) ∉ r) :
    userL (p ++ ((if us = [] then [] else escT 0 us ++ [64]) ++ r)) p.length = .ok (us, p.length + (if us = [] then [] else escT 0 us ++ [64]).length) := by
  by_cases hu : us = []
  · subst hu
    rw [if_pos rfl, List.nil_append]
    have e : untilL (p ++ r) p.length [64] = (p ++ r).length := by
      have := until_seg (p := p) (z := r) (r := []) (stops := [64]) (fun c hc => by
        rw [Bool.eq_false_iff]; intro hm
        rw [List.contains_iff_mem, List.mem_singleton] at hm
        subst hm; exact hr hc) (.inl rfl)
      rw [List.append_nil] at this
      rw [this]; simp
    unfold userL
    dsimp only
    rw [e, if_pos (Nat.le_refl _)]
    rfl
  · rw [if_neg hu]
    have e1 : p ++ (escT 0 us ++ [64] ++ r) = p ++ (escT 0 us ++ (64 :: r)) := by simp
    have hne : escT 0 us ≠ [] := fun h => hu ((escT_ne 0).1 h)
    have hl := List.length_pos_iff.2 hne
    have e2 : untilL (p ++ (escT 0 us ++ (64 :: r))) p.length [64] = p.length + (escT 0 us).length := by
      refine until_seg (fun c hc => ?_) (.inr rfl)
      rw [Bool.eq_false_iff]; intro hm
      rw [List.contains_iff_mem, List.mem_singleton] at hm
      subst hm
      have := escT_in hb 64 hc
      unfold escX at this
      rw [Bool.or_eq_true] at this
      rcases this with h | h
      · simp at h
      · exact (inC_range h).2.2.2.2.2.2 rfl
    unfold userL
    dsimp only
    rw [e1, e2, if_neg (by simp), take_seg, wrongL_esc 0 p hb hc]
    dsimp only
    rw [if_neg (by omega), sub_seg, contL_esc 0 hb]
    simp
    omega
theorem tel_read (sg : Bool) : ∀ (d p acc : List Int) (f : Nat), d.all (telC sg) = true → d.length + 1 ≤ f → telN (p ++ d) sg f p.length acc = .ok (acc ++ d)
  | d, p, acc, 0, _, hf => absurd hf (by omega)
  | [], p, acc, f + 1, _, _ => by
    unfold telN
    rw [if_pos (by simp)]; simp
  | c :: d, p, acc, f + 1, hd, hf => by
    rw [List.all_cons, Bool.and_eq_true] at hd
    unfold telN
    rw [if_neg (by simp), getD_mid, if_pos hd.1]
    have ih := tel_read sg d (p ++ [c]) (acc ++ [c]) f hd.2 (by simpa using hf)
    rw [List.append_assoc, List.length_append, List.length_singleton, List.append_assoc] at ih
    exact ih
theorem telC_range {sg : Bool} {c : Int} (h : telC sg c = true) : c ≠ 59 ∧ c ≠ 64 ∧ 33 ≤ c ∧ c ≤ 57 ∧ c ≠ 43 ∧ c ≠ 60 ∧ c ≠ 62 ∧ c ≠ 37 := by
  unfold telC at h
  rw [Bool.or_eq_true] at h
  rcases h with h | h
  · unfold isDig at h; simp at h; omega
  · simp at h; omega
theorem dialed_is {us : List Int} (h : dialedL us = true) : ∃ (sg : Bool) (d : List Int), us = (if sg = true then [43] else []) ++ d ∧ d ≠ [] ∧ d.length ≤ 30 ∧ d.all (telC sg) = true := by
  unfold dialedL at h
  dsimp only at h
  generalize hsg : decide (us.head? = some 43) = sg at h
  have h2 : ∀ d : List Int, ((decide (d ≠ []) && decide (d.length ≤ 30)) && d.all (telC sg)) = true → d ≠ [] ∧ d.length ≤ 30 ∧ d.all (telC sg) = true := fun d h => by
    rw [Bool.and_eq_true, Bool.and_eq_true, decide_eq_true_eq, decide_eq_true_eq] at h
    exact ⟨h.1.1, h.1.2, h.2⟩
  cases sg with
  | true =>
    have hs := of_decide_eq_true hsg
    cases us with
    | nil => cases hs
    | cons c us =>
      injection hs with hs
      subst hs
      exact ⟨true, us, rfl, h2 us h⟩
  | false => exact ⟨false, us, rfl, h2 us h⟩
theorem phone_read {us : List Int} (h : dialedL us = true) (p r : List Int) (hr : r = [] ∨ r.getD 0 0 = 59) : phoneL (p ++ (us ++ r)) p.length = .ok (us, p.length + us.length) := by
  obtain ⟨sg, d, rfl, h1, h2, h3⟩ := dialed_is h
  have hc : ∀ c ∈ d, telC sg c = true := List.all_eq_true.1 h3
  have e0 : untilL (p ++ (((if sg = true then [43] else []) ++ d) ++ r)) p.length [59] = p.length + ((if sg = true then [43] else []) ++ d).length := by
    refine until_seg (fun c hcm => ?_) ?_
    · rw [Bool.eq_false_iff]; intro hm
      rw [List.contains_iff_mem, List.mem_singleton] at hm
      subst hm
      rcases List.mem_append.1 hcm with h | h
      · cases sg <;> simp at h
      · exact (telC_range (hc _ h)).1 rfl
    · rcases hr with h | h
      · exact .inl h
      · right; rw [h]; rfl
  unfold phoneL
  dsimp only
  rw [e0, take_seg]
  cases sg with
  | true =>
    simp only [if_true]
    have e1 : atL (p ++ ([43] ++ d ++ r)) p.length 43 = true := by rw [List.append_assoc, List.singleton_append, atL_seg]; rfl
    rw [e1]
    simp only [if_true]
    have e2 := tel_read true d (p ++ [43]) [] ((p ++ ([43] ++ d ++ r)).length + 1) h3 (by simp; omega)
    have l43 : (p ++ [43]).length = p.length + 1 := by simp
    rw [List.append_assoc, l43, List.nil_append] at e2
    rw [e2]
    dsimp only
    rw [if_neg h1, if_neg (by omega)]
  | false =>
    simp only [Bool.false_eq_true, if_false, List.nil_append]
    have e1 : atL (p ++ (d ++ r)) p.length 43 = false := by
      cases d with
      | nil => exact absurd rfl h1
      | cons c d =>
        rw [List.cons_append, atL_seg]
        have := telC_range (hc c (by simp))
        simp; omega
    rw [e1]
    simp only [Bool.false_eq_true, if_false]
    have e2 := tel_read false d p [] ((p ++ (d ++ r)).length + 1) h3 (by simp; omega)
    rw [List.nil_append] at e2
    rw [e2]
    dsimp only
    rw [if_neg h1, if_neg (by omega)]
    simp
theorem flat_len : ∀ {ps : List Pm}, ps.length ≤ (ps.flatMap pmT).length
  | [] => by simp
  | q :: ps => by have := @flat_len ps; rw [List.flatMap_cons, pmT_eq]; simp only [List.length_append, List.length_cons]; omega
theorem hdsT_len : ∀ {hs : List Pm} {b : Bool}, hs.length ≤ (hdsT hs b).length
  | [], _ => by simp
  | q :: hs, b => by
    have := @hdsT_len hs false
    rw [show hdsT (q :: hs) b = (if b = true then [63] else [38]) ++ hdT q ++ hdsT hs false from rfl]
    cases b <;> simp <;> omega
theorem hdsT_head (hs : List Pm) : hdsT hs true = [] ∨ (hdsT hs true).getD 0 0 = 63 := by
  cases hs with
  | nil => exact .inl rfl
  | cons q hs => exact .inr rfl
theorem tail_read {n : Uri} (hn : UriN n) {stops : List Int} (hs : stops.all (fun c => !(c == 61 || escX 1 c)) = true) (h59 : stops.contains 59 = true) (h63 : n.hs = [] ∨ stops.contains 63 = true) (p : List Int) :
    tailL (p ++ (n.ps.flatMap pmT ++ hdsT n.hs true)) stops n.sc n.us n.ho n.po p.length = .ok n := by
  have h1 := ps_read stops hs h59 n.ps [] p (hdsT n.hs true) ((p ++ (n.ps.flatMap pmT ++ hdsT n.hs true)).length + 1) hn.ps (by
    rcases h63 with h | h
    · rw [h]; exact .inl rfl
    · rcases hdsT_head n.hs with h2 | h2
      · exact .inl h2
      · rw [h2]; exact .inr ⟨h, by decide⟩) (by have := @flat_len n.ps; simp only [List.length_append]; omega)
  have h2 := hs_read n.hs [] (p ++ n.ps.flatMap pmT) ((p ++ (n.ps.flatMap pmT ++ hdsT n.hs true)).length + 1) true hn.hs (by have := @hdsT_len n.hs true; simp only [List.length_append]; omega)
  rw [List.append_assoc, len_app (p) (n.ps.flatMap pmT)] at h2
  unfold tailL
  rw [h1]
  dsimp only
  rw [h2]
  dsimp only
  rw [List.nil_append, List.nil_append, sort_id hn.pa, sort_id hn.ha]
theorem pst_head (ps : List Pm) (r : List Int) (hr : r = [] ∨ r.getD 0 0 = 63) : (ps.flatMap pmT ++ r) = [] ∨ (ps.flatMap pmT ++ r).getD 0 0 = 59 ∨ (ps.flatMap pmT ++ r).getD 0 0 = 63 := by
  cases ps with
  | nil =>
    rw [List.flatMap_nil, List.nil_append]
    rcases hr with h | h
    · exact .inl h
    · exact .inr (.inr h)
  | cons q ps => right; left; rw [List.flatMap_cons, pmT_eq]; rfl
theorem uri_read {n : Uri} (hn : UriN n) (hl : (printN n).length ≤ 1024) : uriL (printN n) = .ok n := by
  have hp1 := hn.ps.f
  have hp2 := hn.hs.f
  have hk := hn.k
  have key : ∀ (sc rest : List Int), (sc = SIPT ∨ sc = SIPST ∨ sc = TELT) → untilL (sc ++ (58 :: rest)) 0 [58] = sc.length := by
    intro sc rest hsc
    have := until_seg (p := []) (z := sc) (r := 58 :: rest) (stops := [58]) (by rcases hsc with rfl | rfl | rfl <;> decide) (.inr rfl)
    simpa using this
  rcases hk with ⟨hsc, hh, hbh, hp0, hp9, hcl⟩ | ⟨hsc, h1, h2, h3, h4⟩
  · have hF := host_form hh
    have hnt : n.sc ≠ TELT := by rcases hsc with h | h <;> rw [h] <;> decide
    obtain ⟨U, hU⟩ : ∃ U, (if n.us = [] then [] else escT 0 n.us ++ [64] : List Int) = U := ⟨_, rfl⟩
    obtain ⟨P, hP⟩ : ∃ P, (if n.po = 0 then [] else [58] ++ decL n.po : List Int) = P := ⟨_, rfl⟩
    have e : printN n = n.sc ++ (58 :: (U ++ (n.ho ++ (P ++ (n.ps.flatMap pmT ++ hdsT n.hs true))))) := by
      unfold printN
      rw [if_neg hnt, hU, hP]; simp
    have hr1 := pst_head n.ps (hdsT n.hs true) (hdsT_head n.hs)
    have hr2 : Behind (P ++ (n.ps.flatMap pmT ++ hdsT n.hs true)) := by
      rw [← hP]
      split
      · rw [List.nil_append]
        rcases hr1 with h | h | h
        · exact .inl h
        · exact .inr (.inr (.inl h))
        · exact .inr (.inr (.inr h))
      · exact .inr (.inl rfl)
    have hPd : (64 : Int) ∉ P := by
      rw [← hP]
      split
      · simp
      · obtain ⟨m, hm⟩ := Int.eq_ofNat_of_zero_le hp0
        rw [hm]
        intro hx
        rcases List.mem_append.1 hx with h | h
        · simp at h
        · exact decL_no (by decide) h
    have hr3 : (64 : Int) ∉ n.ho ++ (P ++ (n.ps.flatMap pmT ++ hdsT n.hs true)) := by
      simp only [List.mem_append, not_or]
      exact ⟨host_no64 hF, hPd, psT_no64 hp1, hdsT_no64 hp2⟩
    have hpl : placeL (printN n) (n.sc.length + 1) = .ok (n.us, n.ho, n.po, (n.sc ++ [58] ++ U ++ n.ho ++ P).length) := by
      have e1 : printN n = (n.sc ++ [58]) ++ (U ++ (n.ho ++ (P ++ (n.ps.flatMap pmT ++ hdsT n.hs true)))) := by rw [e]; simp
      have e2 : printN n = (n.sc ++ [58] ++ U) ++ (n.ho ++ (P ++ (n.ps.flatMap pmT ++ hdsT n.hs true))) := by rw [e]; simp
      have e3 : printN n = (n.sc ++ [58] ++ U ++ n.ho) ++ (P ++ (n.ps.flatMap pmT ++ hdsT n.hs true)) := by rw [e]; simp
      have l1 : n.sc.length + 1 = (n.sc ++ [58]).length := by simp
      have u1 := user_read hn.us hcl (n.sc ++ [58]) _ hr3
      rw [hU, ← e1] at u1
      have u2 := host_end hF (n.sc ++ [58] ++ U) _ hr2
      rw [← e2] at u2
      have u3 := port_read hp0 hp9 (n.sc ++ [58] ++ U ++ n.ho) (n.ps.flatMap pmT ++ hdsT n.hs true) hr1
      rw [hP, ← e3] at u3
      have u4 : subL (printN n) (n.sc ++ [58] ++ U).length ((n.sc ++ [58] ++ U).length + n.ho.length) = n.ho := by rw [e2]; exact sub_seg _ _ _
      unfold placeL
      rw [l1, u1]
      dsimp only
      rw [← List.length_append, u2, u4, hh]
      dsimp only
      rw [← List.length_append, u3]
      dsimp only
      rw [← List.length_append]
    have hut := key n.sc (U ++ (n.ho ++ (P ++ (n.ps.flatMap pmT ++ hdsT n.hs true)))) (by rcases hsc with h | h <;> simp [h])
    rw [← e] at hut
    have htk : (printN n).take n.sc.length = n.sc := by rw [e, List.take_left]
    have hlow : lowS n.sc = n.sc := sc_low (by rcases hsc with h | h <;> simp [h])
    have ht := tail_read hn (stops := [59, 63]) (by decide) (by decide) (.inr (by decide)) (n.sc ++ [58] ++ U ++ n.ho ++ P)
    have e4 : (n.sc ++ [58] ++ U ++ n.ho ++ P) ++ (n.ps.flatMap pmT ++ hdsT n.hs true) = printN n := by rw [e]; simp
    rw [e4] at ht
    unfold uriL
    rw [if_neg (by omega)]
    dsimp only
    rw [hut, if_neg (by rw [e]; simp), htk, hlow, if_pos hsc, hpl]
    exact ht
  · have e : printN n = n.sc ++ (58 :: (n.us ++ (n.ps.flatMap pmT ++ hdsT n.hs true))) := by
      unfold printN
      rw [if_pos hsc, h1, h2]; simp
    have e1 : printN n = (n.sc ++ [58]) ++ (n.us ++ (n.ps.flatMap pmT ++ hdsT n.hs true)) := by rw [e]; simp
    have l1 : n.sc.length + 1 = (n.sc ++ [58]).length := by simp
    have u1 := phone_read h4 (n.sc ++ [58]) (n.ps.flatMap pmT ++ hdsT n.hs true) (by
      rw [h3]
      rcases pst_head n.ps [] (.inl rfl) with h | h | h
      · exact .inl h
      · exact .inr h
      · rw [List.append_nil] at h
        cases hq : n.ps with
        | nil => exact .inl rfl
        | cons q ps => right; rw [List.flatMap_cons, pmT_eq]; rfl)
    rw [← e1] at u1
    have hut := key n.sc (n.us ++ (n.ps.flatMap pmT ++ hdsT n.hs true)) (.inr (.inr hsc))
    rw [← e] at hut
    have htk : (printN n).take n.sc.length = n.sc := by rw [e, List.take_left]
    have hlow : lowS n.sc = n.sc := sc_low (.inr (.inr hsc))
    have ht := tail_read hn (stops := [59]) (by decide) (by decide) (.inl h3) (n.sc ++ [58] ++ n.us)
    have e4 : (n.sc ++ [58] ++ n.us) ++ (n.ps.flatMap pmT ++ hdsT n.hs true) = printN n := by rw [e]; simp
    rw [e4, h1, h2] at ht
    unfold uriL
    rw [if_neg (by omega)]
    dsimp only
    rw [hut, if_neg (by rw [e]; simp), htk, hlow, if_neg (by rw [hsc]; decide), if_pos hsc, l1, u1]
    dsimp only
    rw [← List.length_append]
    exact ht
theorem round_law {u : Uri} {s : List Int} (hb : UriBy u) (h : printU u = some s) : ∃ n, normL u = some n ∧ normL n = some n ∧ s = printN n ∧ (s.length ≤ 1024 → uriL s = .ok n) := by
  unfold printU at h
  rw [Option.map_eq_some_iff] at h
  obtain ⟨n, hn, rfl⟩ := h
  exact ⟨n, hn, norm_idem hb hn, rfl, uri_read (norm_ok hb hn)⟩
end Go.Proofs.YthfonniieaiocaaGreatDoor
namespace Go.Proofs.YthfonniieaiocaaGreatDoor
open Go.RowKit

theorem skip_stop {p : Int → Bool} {xs : List Int} {i : Nat} (h : skipTo p xs i < xs.length) : p (xs.getD (skipTo p xs i) 0) = false := by
  have e : xs.drop i = (xs.drop i).takeWhile p ++ (xs.drop i).dropWhile p := (List.takeWhile_append_dropWhile).symm
  unfold skipTo at h ⊢
  have hg : xs.getD (i + ((xs.drop i).takeWhile p).length) 0 = ((xs.drop i).dropWhile p).getD 0 0 := by
    rw [List.getD_eq_getElem?_getD, ← List.getElem?_drop, List.getD_eq_getElem?_getD]
    conv => lhs; rw [e]
    rw [List.getElem?_append_right (by rw [← e]; exact Nat.le_refl _), ← e, Nat.sub_self]
  rw [hg]
  cases hd : (xs.drop i).dropWhile p with
  | nil =>
    rw [hd, List.append_nil] at e
    have := congrArg List.length e
    rw [List.length_drop] at this
    omega
  | cons c r =>
    have := List.head?_dropWhile_not p (xs.drop i)
    rw [hd] at this
    simpa using this
theorem user_ok {xs : List Int} {a : Nat} (hx : By xs) (ha : a ≤ xs.length) : match userL xs a with
    | .ok r => By r.1 ∧ clean r.1 = true ∧ r.2 ≤ xs.length
    | .error e => e.1 ≤ xs.length ∧ e.2 ≠ 0 := by
  obtain ⟨u1, u2⟩ := until_le (st := [64]) ha
  unfold userL
  dsimp only
  generalize untilL xs a [64] = k at *
  by_cases h : xs.length ≤ k
  · rw [if_pos h]; exact ⟨(fun x hx => by cases hx), rfl, ha⟩
  · rw [if_neg h]
    cases hw : wrongL (xs.take k) 0 a with
    | some i =>
      have := wrong_le (by omega) hw
      exact ⟨by dsimp only; omega, by dsimp only; split <;> decide⟩
    | none =>
      dsimp only
      by_cases hk : k = a
      · rw [if_pos hk]; exact ⟨u2, by simp⟩
      · rw [if_neg hk]
        rw [wrong_sub u1 u2, Option.map_eq_none_iff] at hw
        obtain ⟨c1, c2, _, _⟩ := contL_ok (hx.sub (subL_sub xs a k)) hw
        exact ⟨c1, c2, by dsimp only; omega⟩
theorem hostEnd_le {xs : List Int} {a : Nat} (ha : a ≤ xs.length) : a ≤ hostEnd xs a ∧ hostEnd xs a ≤ xs.length := by
  unfold hostEnd
  split
  · have h1 := until_le (st := [93]) ha
    omega
  · exact until_le ha
theorem decn_val (l : List Int) : (decnL l).2 = 0 ∨ (decnL l).2 = 5 ∨ (decnL l).2 = 3 := by
  unfold decnL
  split
  · exact .inr (.inl rfl)
  · split
    · exact .inr (.inr rfl)
    · exact .inl rfl
theorem port_ok {xs : List Int} {a : Nat} (ha : a ≤ xs.length) : match portL xs a with
    | .ok r => 0 ≤ r.1 ∧ r.1 ≤ 65535 ∧ a ≤ r.2 ∧ r.2 ≤ xs.length
    | .error e => e.1 ≤ xs.length ∧ e.2 ≠ 0 := by
  unfold portL
  by_cases h : atL xs a 58 = true
  · rw [if_pos h]
    have h1 := (atL_lt (by rw [h]; decide)).1
    obtain ⟨u1, u2⟩ := until_le (st := [59, 63]) (show a + 1 ≤ xs.length by omega)
    dsimp only
    generalize untilL xs (a + 1) [59, 63] = k at *
    generalize decnL (subL xs (a + 1) k) = p at *
    by_cases h2 : p.2 ≠ 0
    · rw [if_pos h2]; exact ⟨h1, h2⟩
    · rw [if_neg h2]
      by_cases h3 : p.1 < 1 ∨ 65535 < p.1
      · rw [if_pos h3]; exact ⟨h1, by simp⟩
      · rw [if_neg h3]
        have e1 : ¬ p.1 < 1 := fun h => h3 (.inl h)
        have e2 : ¬ 65535 < p.1 := fun h => h3 (.inr h)
        exact ⟨by dsimp only; omega, by dsimp only; omega, by dsimp only; omega, u2⟩
  · rw [if_neg h]
    by_cases h2 : a < xs.length ∧ atL xs a 59 = false ∧ atL xs a 63 = false
    · rw [if_pos h2]; exact ⟨ha, by simp⟩
    · rw [if_neg h2]; exact ⟨by simp, by simp, Nat.le_refl _, ha⟩
theorem tel_ok {xs : List Int} {sg : Bool} : ∀ (f i : Nat) (acc : List Int), acc.all (telC sg) = true → match telN xs sg f i acc with
    | .ok d => d.all (telC sg) = true
    | .error j => j ≤ xs.length
  | 0, i, acc, h => by unfold telN; exact h
  | f + 1, i, acc, h => by
    unfold telN
    by_cases h1 : xs.length ≤ i
    · rw [if_pos h1]; exact h
    · rw [if_neg h1]
      by_cases h2 : telC sg (xs.getD i 0) = true
      · rw [if_pos h2]
        exact tel_ok f (i + 1) _ (by rw [List.all_append, h]; simp; exact h2)
      · rw [if_neg h2]
        by_cases h3 : telS (xs.getD i 0) = true
        · rw [if_pos h3]; exact tel_ok f (i + 1) _ h
        · rw [if_neg h3]; show i ≤ xs.length; omega
theorem telC_by {sg : Bool} {d : List Int} (h : d.all (telC sg) = true) : By d := fun x hx => by
  have := telC_range (List.all_eq_true.1 h x hx); omega
theorem phone_ok {xs : List Int} {a : Nat} (ha : a ≤ xs.length) : match phoneL xs a with
    | .ok r => By r.1 ∧ dialedL r.1 = true ∧ r.2 ≤ xs.length
    | .error e => e.1 ≤ xs.length ∧ e.2 ≠ 0 := by
  obtain ⟨u1, u2⟩ := until_le (st := [59]) ha
  unfold phoneL
  dsimp only
  generalize untilL xs a [59] = k at *
  generalize atL xs a 43 = sg at *
  have ht := tel_ok (xs := xs.take k) (sg := sg) (xs.length + 1) (if sg = true then a + 1 else a) [] rfl
  cases hd : telN (xs.take k) sg (xs.length + 1) (if sg = true then a + 1 else a) [] with
  | error j =>
    rw [hd] at ht
    have ht2 : j ≤ (xs.take k).length := ht
    rw [List.length_take] at ht2
    exact ⟨by dsimp only; omega, by simp⟩
  | ok d =>
    rw [hd] at ht
    have ht2 : d.all (telC sg) = true := ht
    dsimp only
    by_cases h0 : d = []
    · rw [if_pos h0]; exact ⟨ha, by simp⟩
    · rw [if_neg h0]
      by_cases h3 : 30 < d.length
      · rw [if_pos h3]; exact ⟨ha, by simp⟩
      · rw [if_neg h3]
        refine ⟨?_, ?_, u2⟩
        · intro x hx
          rcases List.mem_append.1 hx with h | h
          · cases sg <;> simp at h
            omega
          · exact telC_by ht2 x h
        · unfold dialedL
          dsimp only
          have e : decide (((if sg = true then [43] else []) ++ d).head? = some 43) = sg := by
            cases sg with
            | true => rfl
            | false =>
              cases d with
              | nil => exact absurd rfl h0
              | cons c d =>
                have := telC_range (List.all_eq_true.1 ht2 c (by simp))
                simp; omega
          rw [e]
          have e2 : (if sg = true then ((if sg = true then [43] else []) ++ d).drop 1 else (if sg = true then [43] else []) ++ d) = d := by cases sg <;> rfl
          rw [e2, ht2, decide_eq_true h0, decide_eq_true (show d.length ≤ 30 by omega)]; rfl
theorem LOK.nil (k : Int) : LOK k [] := ⟨(fun p hp => by cases hp), List.nodup_nil, by decide⟩
theorem tail_ok {xs stops : List Int} {sc us ho : List Int} {po : Int} {a : Nat} (hx : By xs) (ha : a ≤ xs.length) : match tailL xs stops sc us ho po a with
    | .ok u => u.sc = sc ∧ u.us = us ∧ u.ho = ho ∧ u.po = po ∧ LOK 1 u.ps ∧ Asc u.ps ∧ LOK 2 u.hs ∧ Asc u.hs
    | .error e => e.1 ≤ xs.length ∧ e.2 ≠ 0 := by
  have h1 := ps_ok (stops := stops) hx (xs.length + 1) a [] ha (LOK.nil 1)
  unfold tailL
  cases hp : psN xs stops (xs.length + 1) a [] with
  | error e => rw [hp] at h1; exact h1
  | ok r =>
    rw [hp] at h1
    obtain ⟨ps, b⟩ := r
    obtain ⟨h2, h3⟩ := h1
    dsimp only at h2 h3 ⊢
    have h4 := hs_ok hx (xs.length + 1) b [] h3 (LOK.nil 2)
    cases hh : hsN xs (xs.length + 1) b [] with
    | error e => rw [hh] at h4; exact h4
    | ok hs =>
      rw [hh] at h4
      exact ⟨rfl, rfl, rfl, rfl, h2.sort, sort_asc _, LOK.sort h4, sort_asc _⟩
theorem until_stop {xs : List Int} {a : Nat} {st : List Int} (h : untilL xs a st < xs.length) : st.contains (xs.getD (untilL xs a st) 0) = true := by
  have : (!st.contains (xs.getD (untilL xs a st) 0)) = false := skip_stop h
  rw [Bool.not_eq_false'] at this
  exact this
theorem ps_end {xs : List Int} : ∀ (f a : Nat) (l : List Pm), a ≤ xs.length → xs.length + 1 ≤ f + a → (a = xs.length ∨ atL xs a 59 = true) → ∀ r, psN xs [59] f a l = .ok r → r.2 = xs.length
  | 0, a, l, ha, hf, _, _, _ => by omega
  | f + 1, a, l, ha, hf, h0, r, hr => by
    unfold psN at hr
    by_cases h : atL xs a 59 = false
    · rw [if_pos h] at hr
      injection hr with hr
      subst hr
      rcases h0 with h0 | h0
      · exact h0
      · rw [h] at h0; cases h0
    · rw [if_neg h] at hr
      have h1 := (atL_lt h).1
      obtain ⟨u1, u2⟩ := until_le (st := [59]) (show a + 1 ≤ xs.length by omega)
      split at hr
      · cases hr
      · refine ps_end f _ _ u2 (by omega) ?_ r hr
        by_cases hk : untilL xs (a + 1) [59] = xs.length
        · exact .inl hk
        · right
          have hlt : untilL xs (a + 1) [59] < xs.length := by omega
          have := until_stop hlt
          rw [List.contains_iff_mem, List.mem_singleton] at this
          unfold atL
          rw [decide_eq_true hlt, this]; rfl
theorem uri_ok {xs : List Int} (hx : By xs) : match uriL xs with
    | .ok u => UriN u
    | .error e => e.1 ≤ xs.length ∧ e.2 ≠ 0 := by
  unfold uriL
  by_cases h0 : 1024 < xs.length
  · rw [if_pos h0]; exact ⟨by dsimp only; omega, by simp⟩
  rw [if_neg h0]
  obtain ⟨u1, u2⟩ := until_le (xs := xs) (a := 0) (st := [58]) (Nat.zero_le _)
  dsimp only
  generalize hk : untilL xs 0 [58] = k at *
  by_cases h1 : xs.length ≤ k
  · rw [if_pos h1]; exact ⟨Nat.le_refl _, by simp⟩
  rw [if_neg h1]
  by_cases h2 : lowS (xs.take k) = SIPT ∨ lowS (xs.take k) = SIPST
  · rw [if_pos h2]
    have p1 := user_ok hx (show k + 1 ≤ xs.length by omega)
    unfold placeL
    cases hu : userL xs (k + 1) with
    | error e => rw [hu] at p1; exact p1
    | ok r =>
      obtain ⟨us, b⟩ := r
      rw [hu] at p1
      obtain ⟨c1, c2, c3⟩ := p1
      dsimp only at c1 c2 c3 ⊢
      obtain ⟨e1, e2⟩ := hostEnd_le c3
      cases hh : hostL (subL xs b (hostEnd xs b)) with
      | none => exact ⟨c3, by simp⟩
      | some ho =>
        dsimp only
        have p2 := port_ok e2
        cases hp : portL xs (hostEnd xs b) with
        | error e => rw [hp] at p2; exact p2
        | ok q =>
          obtain ⟨po, c⟩ := q
          rw [hp] at p2
          obtain ⟨d1, d2, d3, d4⟩ := p2
          dsimp only at d1 d2 d3 d4 ⊢
          have p3 := tail_ok (stops := [59, 63]) (sc := lowS (xs.take k)) (us := us) (ho := ho) (po := po) hx d4
          cases ht : tailL xs [59, 63] (lowS (xs.take k)) us ho po c with
          | error e => rw [ht] at p3; exact p3
          | ok u =>
            rw [ht] at p3
            obtain ⟨f1, f2, f3, f4, f5, f6, f7, f8⟩ := p3
            refine ⟨by rw [f2]; exact c1, f5, f6, f7, f8, .inl ⟨by rw [f1]; exact h2, by rw [f3]; exact host_idem hh, by rw [f3]; exact host_by hh (hx.sub (subL_sub _ _ _)), by rw [f4]; exact d1, by rw [f4]; exact d2, by rw [f2]; exact c2⟩⟩
  rw [if_neg h2]
  by_cases h3 : lowS (xs.take k) = TELT
  · rw [if_pos h3]
    have p1 := phone_ok (xs := xs) (show k + 1 ≤ xs.length by omega)
    cases hp : phoneL xs (k + 1) with
    | error e => rw [hp] at p1; exact p1
    | ok r =>
      obtain ⟨us, c⟩ := r
      rw [hp] at p1
      obtain ⟨c1, c2, c3⟩ := p1
      dsimp only at c1 c2 c3 ⊢
      have hc : c = untilL xs (k + 1) [59] := by
        unfold phoneL at hp
        dsimp only at hp
        split at hp
        · cases hp
        · split at hp
          · cases hp
          · split at hp
            · cases hp
            · injection hp with hp
              injection hp with _ hp
              exact hp.symm
      have p3 := tail_ok (stops := [59]) (sc := lowS (xs.take k)) (us := us) (ho := []) (po := 0) hx c3
      cases ht : tailL xs [59] (lowS (xs.take k)) us [] 0 c with
      | error e => rw [ht] at p3; exact p3
      | ok u =>
        rw [ht] at p3
        obtain ⟨f1, f2, f3, f4, f5, f6, f7, f8⟩ := p3
        have fh : u.hs = [] := by
          unfold tailL at ht
          cases hq : psN xs [59] (xs.length + 1) c [] with
          | error e => rw [hq] at ht; cases ht
          | ok r =>
            obtain ⟨ps, b⟩ := r
            have hb := ps_end _ _ _ c3 (by omega) (by
              by_cases hl : c = xs.length
              · exact .inl hl
              · right
                unfold atL
                have := until_stop (xs := xs) (a := k + 1) (st := [59]) (by rw [← hc]; omega)
                rw [← hc] at this
                rw [List.contains_iff_mem, List.mem_singleton] at this
                rw [decide_eq_true (show c < xs.length by omega), this]; rfl) _ hq
            rw [hq] at ht
            dsimp only at hb ht
            have he : hsN xs (xs.length + 1) b [] = .ok [] := by unfold hsN; rw [if_pos (by omega)]
            rw [he] at ht
            injection ht with ht
            rw [← ht]; rfl
        exact ⟨by rw [f2]; exact c1, f5, f6, f7, f8, .inr ⟨by rw [f1]; exact h3, f3, f4, fh, by rw [f2]; exact c2⟩⟩
  · rw [if_neg h3]; exact ⟨Nat.zero_le _, by simp⟩
end Go.Proofs.YthfonniieaiocaaGreatDoor
