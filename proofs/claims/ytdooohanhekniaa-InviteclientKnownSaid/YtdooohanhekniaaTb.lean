/- The invariant of the simulated client is kept by every input. -/
import Derived.Test.YtdooohanhekniaaTa
namespace Go.Proofs.Ytdooohanhekniaa

theorem pm_1 {k : Nat} (h : k ≤ 6) : mayB 1 (wK k) 0 = true := by
  match k, h with
  | 0, _ | 1, _ | 2, _ | 3, _ | 4, _ | 5, _ | 6, _ => decide
theorem pm_3 : mayB 3 0 0 = true := by decide
theorem pm_4 {c : Int} (h1 : 200 ≤ c) (h2 : c ≤ 299) : mayB 4 0 c = true := by simp [mayB, h1, h2]
theorem pm_5 {c : Int} (h1 : 300 ≤ c) (h2 : c ≤ 699) : mayB 5 0 c = true := by simp [mayB, h1, h2]
theorem pm_7 {c : Int} (h : c = 0 ∨ 200 ≤ c ∧ c ≤ 699) : mayB 7 0 c = true := by
  rcases h with rfl | h
  · decide
  · simp [mayB, h]

theorem take_nil (σ : Sim) (m : Mach) : takeS σ m [] = { σ with m := m } := rfl
theorem take_same (m : Mach) (d : List Int) (n : Int) (l : List Ent) : takeS ⟨m, d, n, l⟩ m [] = ⟨m, d, n, l⟩ := rfl
theorem take_1 (m m' : Mach) (a b d e n : Int) (l : List Ent) (o : Out) (h : o.kind ≠ 4) : takeS ⟨m, dueL a b d e, n, l⟩ m' [o] = ⟨m', dueL a b d e, n, l ++ [⟨n, o⟩]⟩ := by
  simp [takeS, takeOne, h]
theorem take_2 (m m' : Mach) (a b d e n : Int) (l : List Ent) (o p : Out) (h : o.kind ≠ 4) (h' : p.kind ≠ 4) : takeS ⟨m, dueL a b d e, n, l⟩ m' [o, p] = ⟨m', dueL a b d e, n, l ++ [⟨n, o⟩] ++ [⟨n, p⟩]⟩ := by
  simp [takeS, takeOne, h, h']

/-- The rest of the invariant behind outputs that are now put out. -/
theorem Inv.mk' {m' : Mach} {a b d e now : Int} {l : List Ent} (hs : Sh m' a b d e l now) (nw : 0 ≤ now) (pa : a = -1 ∨ now ≤ a) (pb : b = -1 ∨ now ≤ b) (pd : d = -1 ∨ now ≤ d) (pe : e = -1 ∨ now ≤ e) (ha : ∀ x ∈ l, x.at_ ≤ now) (ho : Ord l) (ud : d ≤ now + 32000) (ue : e ≤ now + 32000) : Inv m' a b d e now l := ⟨hs, nw, pa, pb, pd, pe, ha, ho, ud, ue⟩

theorem G1.three {l : List Ent} {n c : Int} (h : G1 l) (h1 : 100 ≤ c) (h2 : c ≤ 199) : G3 (l ++ [⟨n, ⟨3, c, 0, 0⟩⟩]) := by
  obtain ⟨_, b, c', d, e, f⟩ := h
  refine ⟨?_, ?_, ?_, ?_, ?_⟩
  · rw [num_snoc, b, if_neg (by simp; omega)]
  · rw [num_snoc, c', if_neg (by simp; omega)]
  · rw [num_snoc, d, if_neg (by simp)]
  · rw [num_snoc, e, if_neg (by simp)]
  · rw [fin_snoc, f]; simp; omega
theorem G3.three {l : List Ent} {n c : Int} (h : G3 l) (h1 : 100 ≤ c) (h2 : c ≤ 199) : G3 (l ++ [⟨n, ⟨3, c, 0, 0⟩⟩]) := by
  obtain ⟨b, c', d, e, f⟩ := h
  refine ⟨?_, ?_, ?_, ?_, ?_⟩
  · rw [num_snoc, b, if_neg (by simp; omega)]
  · rw [num_snoc, c', if_neg (by simp; omega)]
  · rw [num_snoc, d, if_neg (by simp)]
  · rw [num_snoc, e, if_neg (by simp)]
  · rw [fin_snoc, f]; simp; omega
theorem G1.toG3 {l : List Ent} (h : G1 l) : G3 l := h.2
theorem G3.four {l : List Ent} {n c : Int} (h : G3 l) (h1 : 200 ≤ c) (h2 : c ≤ 299) : G4 (l ++ [⟨n, ⟨3, c, 0, 0⟩⟩] ++ [⟨n, ⟨4, 0, 13, 32000⟩⟩]) := by
  obtain ⟨b, c', d, e, f⟩ := h
  refine ⟨?_, ?_, ?_⟩
  · rw [num_snoc, num_snoc, c', if_neg (by simp; omega), if_neg (by simp)]
  · rw [num_snoc, num_snoc, d, if_neg (by simp), if_neg (by simp)]
  · rw [num_snoc, num_snoc, e, if_neg (by simp), if_neg (by simp)]
theorem G3.five {l : List Ent} {n c : Int} (h : G3 l) (h1 : 300 ≤ c) (h2 : c ≤ 699) : G5 (l ++ [⟨n, ⟨3, c, 0, 0⟩⟩] ++ [⟨n, ⟨2, c, 0, 0⟩⟩] ++ [⟨n, ⟨4, 0, 4, 32000⟩⟩]) := by
  obtain ⟨b, c', d, e, f⟩ := h
  refine ⟨?_, ?_, ?_, ?_, ?_⟩
  · rw [num_snoc, num_snoc, num_snoc, c', if_pos ⟨rfl, h1, h2⟩, if_neg (by simp), if_neg (by simp)]
  · rw [num_snoc, num_snoc, num_snoc, b, if_neg (by simp; omega), if_neg (by simp), if_neg (by simp)]
  · rw [num_snoc, num_snoc, num_snoc, d, if_neg (by simp), if_neg (by simp), if_neg (by simp)]
  · rw [num_snoc, num_snoc, num_snoc, e, if_neg (by simp), if_neg (by simp), if_neg (by simp)]
  · rw [num_snoc, num_snoc, num_snoc, if_neg (by simp), if_pos ⟨rfl, h1, h2⟩, if_neg (by simp)]; omega
theorem G4.four {l : List Ent} {n c : Int} (h : G4 l) (h2 : c ≤ 299) : G4 (l ++ [⟨n, ⟨3, c, 0, 0⟩⟩]) := by
  obtain ⟨b, d, e⟩ := h
  refine ⟨?_, ?_, ?_⟩
  · rw [num_snoc, b, if_neg (by simp; omega)]
  · rw [num_snoc, d, if_neg (by simp)]
  · rw [num_snoc, e, if_neg (by simp)]
theorem G5.ack {l : List Ent} {n c : Int} (h : G5 l) : G5 (l ++ [⟨n, ⟨2, c, 0, 0⟩⟩]) := by
  obtain ⟨b, c', d, e, f⟩ := h
  refine ⟨?_, ?_, ?_, ?_, ?_⟩
  · rw [num_snoc, b, if_neg (by simp)]
  · rw [num_snoc, c', if_neg (by simp)]
  · rw [num_snoc, d, if_neg (by simp)]
  · rw [num_snoc, e, if_neg (by simp)]
  · rw [num_snoc]; omega
theorem G1.end2 {l : List Ent} {n o : Int} (h : G1 l) (ho : o = 5 ∨ o = 6) : G7 (l ++ [⟨n, ⟨o, 0, 0, 0⟩⟩] ++ [⟨n, ⟨7, 0, 0, 0⟩⟩]) := by
  obtain ⟨a, b, c', d, e, f⟩ := h
  refine ⟨?_, ⟨_, _, rfl, rfl⟩, .inl ⟨?_, .inr ?_⟩⟩
  · rw [num_snoc, num_snoc, e, if_neg (by simp; omega), if_pos (by simp)]
  · rw [num_snoc, num_snoc, c', if_neg (by simp), if_neg (by simp)]
  · rw [num_snoc, num_snoc, a, if_neg (by simp; omega), if_neg (by simp)]
theorem G5.end2 {l : List Ent} {n : Int} (h : G5 l) : G7 (l ++ [⟨n, ⟨6, 0, 0, 0⟩⟩] ++ [⟨n, ⟨7, 0, 0, 0⟩⟩]) := by
  obtain ⟨b, c', d, e, f⟩ := h
  refine ⟨?_, ⟨_, _, rfl, rfl⟩, .inr ⟨?_, ?_, ?_, ?_⟩⟩
  · rw [num_snoc, num_snoc, e, if_neg (by simp), if_pos (by simp)]
  · rw [num_snoc, num_snoc, b, if_neg (by simp), if_neg (by simp)]
  · rw [num_snoc, num_snoc, c', if_neg (by simp), if_neg (by simp)]
  · rw [num_snoc, num_snoc, d, if_neg (by simp), if_neg (by simp)]
  · rw [num_snoc, num_snoc]; omega
theorem G5.end1 {l : List Ent} {n : Int} (h : G5 l) : G7 (l ++ [⟨n, ⟨7, 0, 0, 0⟩⟩]) := by
  obtain ⟨b, c', d, e, f⟩ := h
  refine ⟨?_, ⟨_, _, rfl, rfl⟩, .inr ⟨?_, ?_, ?_, ?_⟩⟩
  · rw [num_snoc, e, if_pos (by simp)]
  · rw [num_snoc, b, if_neg (by simp)]
  · rw [num_snoc, c', if_neg (by simp)]
  · rw [num_snoc, d, if_neg (by simp)]
  · rw [num_snoc]; omega
theorem G4.end1 {l : List Ent} {n : Int} (h : G4 l) : G7 (l ++ [⟨n, ⟨7, 0, 0, 0⟩⟩]) := by
  obtain ⟨b, d, e⟩ := h
  refine ⟨?_, ⟨_, _, rfl, rfl⟩, .inl ⟨?_, .inl ?_⟩⟩
  · rw [num_snoc, e, if_pos (by simp)]
  · rw [num_snoc, b, if_neg (by simp)]
  · rw [num_snoc, d, if_neg (by simp)]

/-- A response in the states 1 and 3. -/
theorem resp_inv {m : Mach} {a b d e now : Int} {l : List Ent} (h : Inv m a b d e now l) (hg : G3 l) (hsame : InvS ⟨m, dueL a b d e, now, l⟩) (hp : ∀ c : Int, 100 ≤ c → c ≤ 199 → G3 (l ++ [⟨now, ⟨3, c, 0, 0⟩⟩])) (hst : m.st = 1 ∨ m.st = 3) (c : Int) :
    InvS (takeS ⟨m, dueL a b d e, now, l⟩ (respS m c).1 (respS m c).2) := by
  unfold respS
  rw [if_pos hst]
  have hfin : fin l = false := hg.2.2.2.2
  by_cases h1 : 100 ≤ c ∧ c ≤ 199
  · rw [if_pos h1]
    simp only
    rw [take_1 _ _ _ _ _ _ _ _ _ (by simp)]
    exact ⟨a, b, d, e, rfl, .mk' (.inr (.inl ⟨rfl, hp c h1.1 h1.2⟩)) h.nw h.pa h.pb h.pd h.pe (at_snoc h.at_) (h.ord.snoc (by simp [hfin])) h.ud h.ue⟩
  rw [if_neg h1]
  by_cases h2 : 200 ≤ c ∧ c ≤ 299
  · rw [if_pos h2]
    have e1 : takeS ⟨m, dueL a b d e, now, l⟩ ⟨4, 0, c⟩ [⟨3, c, 0, 0⟩, ⟨4, 0, 13, 32000⟩] = ⟨⟨4, 0, c⟩, dueL a b d (now + 32000), now, l ++ [⟨now, ⟨3, c, 0, 0⟩⟩] ++ [⟨now, ⟨4, 0, 13, 32000⟩⟩]⟩ := by
      simp [takeS, takeOne, dueL, show max (1 : Int) 32000 = 32000 from by decide]
    simp only
    rw [e1]
    have hn := h.nw
    have hnn : now + 32000 = -1 ∨ now ≤ now + 32000 := .inr (by omega)
    exact ⟨a, b, d, now + 32000, rfl, .mk' (.inr (.inr (.inl ⟨c, h2.1, h2.2, rfl, by omega, hg.four h2.1 h2.2⟩))) h.nw h.pa h.pb h.pd hnn (at_snoc (at_snoc h.at_)) ((h.ord.snoc (by simp [hfin])).snoc (by simp)) h.ud (Int.le_refl _)⟩
  rw [if_neg h2]
  by_cases h3 : 300 ≤ c ∧ c ≤ 699
  · rw [if_pos h3]
    have e1 : takeS ⟨m, dueL a b d e, now, l⟩ ⟨5, 0, c⟩ [⟨3, c, 0, 0⟩, ⟨2, c, 0, 0⟩, ⟨4, 0, 4, 32000⟩] = ⟨⟨5, 0, c⟩, dueL a b (now + 32000) e, now, l ++ [⟨now, ⟨3, c, 0, 0⟩⟩] ++ [⟨now, ⟨2, c, 0, 0⟩⟩] ++ [⟨now, ⟨4, 0, 4, 32000⟩⟩]⟩ := by
      simp [takeS, takeOne, dueL, show max (1 : Int) 32000 = 32000 from by decide]
    simp only
    rw [e1]
    have hn := h.nw
    have hnn : now + 32000 = -1 ∨ now ≤ now + 32000 := .inr (by omega)
    exact ⟨a, b, now + 32000, e, rfl, .mk' (.inr (.inr (.inr (.inl ⟨c, h3.1, h3.2, rfl, by omega, hg.five h3.1 h3.2⟩)))) h.nw h.pa h.pb hnn h.pe (at_snoc (at_snoc (at_snoc h.at_))) (((h.ord.snoc (by simp [hfin])).snoc (by simp)).snoc (by simp)) (Int.le_refl _) h.ue⟩
  rw [if_neg h3]
  exact hsame

theorem give_inv {σ : Sim} (h : InvS σ) (k c : Int) : InvS (giveS σ ⟨k, c, 0⟩) := by
  have hsame := h
  obtain ⟨m, due, now, l⟩ := σ
  obtain ⟨a, b, d, e, hd, hi⟩ := h
  simp only at hd hi
  subst hd
  unfold giveS
  simp only
  rcases hi.sh with ⟨j, hj, rfl, ha, hb, hd, he, hn, hg⟩ | ⟨rfl, hg⟩ | ⟨q, q1, q2, rfl, he, hg⟩ | ⟨q, q1, q2, rfl, he, hg⟩ | ⟨q, hq, rfl, hg⟩
  · by_cases k2 : k = 2
    · subst k2
      simpa [stepS, pm_1 hj] using resp_inv hi hg.toG3 hsame (fun c h1 h2 => hg.three h1 h2) (.inl rfl) c
    by_cases k5 : k = 5
    · subst k5; simpa [stepS, pm_1 hj, timS, take_same] using hsame
    by_cases k6 : k = 6
    · subst k6
      have e1 : stepS ⟨1, wK j, 0⟩ ⟨6, c, 0⟩ = (⟨7, 0, 0⟩, [⟨6, 0, 0, 0⟩, ⟨7, 0, 0, 0⟩]) := by simp [stepS, pm_1 hj, failS]
      rw [e1]
      simp only
      rw [take_2 _ _ _ _ _ _ _ _ _ _ (by simp) (by simp)]
      exact ⟨a, b, d, e, rfl, .mk' (.inr (.inr (.inr (.inr ⟨0, .inl rfl, rfl, hg.end2 (.inr rfl)⟩)))) hi.nw hi.pa hi.pb hi.pd hi.pe (at_snoc (at_snoc hi.at_)) ((hi.ord.snoc (by simp)).snoc (by simp)) hi.ud hi.ue⟩
    simpa [stepS, pm_1 hj, k2, k5, k6, take_same] using hsame
  · by_cases k2 : k = 2
    · subst k2
      simpa [stepS, pm_3] using resp_inv hi hg hsame (fun c h1 h2 => hg.three h1 h2) (.inr rfl) c
    by_cases k5 : k = 5
    · subst k5; simpa [stepS, pm_3, timS, take_same] using hsame
    by_cases k6 : k = 6
    · subst k6; simpa [stepS, pm_3, failS, take_same] using hsame
    simpa [stepS, pm_3, k2, k5, k6, take_same] using hsame
  · by_cases k2 : k = 2
    · subst k2
      by_cases hc : 200 ≤ c ∧ c ≤ 299
      · have e1 : stepS ⟨4, 0, q⟩ ⟨2, c, 0⟩ = (⟨4, 0, q⟩, [⟨3, c, 0, 0⟩]) := by simp [stepS, pm_4 q1 q2, respS, hc]
        rw [e1]
        simp only
        rw [take_1 _ _ _ _ _ _ _ _ _ (by simp)]
        exact ⟨a, b, d, e, rfl, .mk' (.inr (.inr (.inl ⟨q, q1, q2, rfl, he, hg.four hc.2⟩))) hi.nw hi.pa hi.pb hi.pd hi.pe (at_snoc hi.at_) (hi.ord.snoc (by simp; omega)) hi.ud hi.ue⟩
      · simpa [stepS, pm_4 q1 q2, respS, hc, take_same] using hsame
    by_cases k5 : k = 5
    · subst k5; simpa [stepS, pm_4 q1 q2, timS, take_same] using hsame
    by_cases k6 : k = 6
    · subst k6; simpa [stepS, pm_4 q1 q2, failS, take_same] using hsame
    simpa [stepS, pm_4 q1 q2, k2, k5, k6, take_same] using hsame
  · by_cases k2 : k = 2
    · subst k2
      by_cases hc : 300 ≤ c ∧ c ≤ 699
      · have e1 : stepS ⟨5, 0, q⟩ ⟨2, c, 0⟩ = (⟨5, 0, q⟩, [⟨2, c, 0, 0⟩]) := by simp [stepS, pm_5 q1 q2, respS, hc]
        rw [e1]
        simp only
        rw [take_1 _ _ _ _ _ _ _ _ _ (by simp)]
        exact ⟨a, b, d, e, rfl, .mk' (.inr (.inr (.inr (.inl ⟨q, q1, q2, rfl, he, hg.ack⟩)))) hi.nw hi.pa hi.pb hi.pd hi.pe (at_snoc hi.at_) (hi.ord.snoc (by simp)) hi.ud hi.ue⟩
      · simpa [stepS, pm_5 q1 q2, respS, hc, take_same] using hsame
    by_cases k5 : k = 5
    · subst k5; simpa [stepS, pm_5 q1 q2, timS, take_same] using hsame
    by_cases k6 : k = 6
    · subst k6
      have e1 : stepS ⟨5, 0, q⟩ ⟨6, c, 0⟩ = (⟨7, 0, q⟩, [⟨6, 0, 0, 0⟩, ⟨7, 0, 0, 0⟩]) := by simp [stepS, pm_5 q1 q2, failS]
      rw [e1]
      simp only
      rw [take_2 _ _ _ _ _ _ _ _ _ _ (by simp) (by simp)]
      exact ⟨a, b, d, e, rfl, .mk' (.inr (.inr (.inr (.inr ⟨q, .inr ⟨by omega, q2⟩, rfl, hg.end2⟩)))) hi.nw hi.pa hi.pb hi.pd hi.pe (at_snoc (at_snoc hi.at_)) ((hi.ord.snoc (by simp)).snoc (by simp)) hi.ud hi.ue⟩
    simpa [stepS, pm_5 q1 q2, k2, k5, k6, take_same] using hsame
  · by_cases k2 : k = 2
    · subst k2; simpa [stepS, pm_7 hq, respS, take_same] using hsame
    by_cases k5 : k = 5
    · subst k5; simpa [stepS, pm_7 hq, timS, take_same] using hsame
    by_cases k6 : k = 6
    · subst k6; simpa [stepS, pm_7 hq, failS, take_same] using hsame
    simpa [stepS, pm_7 hq, k2, k5, k6, take_same] using hsame
end Go.Proofs.Ytdooohanhekniaa
