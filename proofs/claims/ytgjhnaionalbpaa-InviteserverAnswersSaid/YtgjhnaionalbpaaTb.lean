/- The invariant of the simulated server is kept by every input. -/
import Derived.Test.YtgjhnaionalbpaaTa
namespace Go.Proofs.Ytgjhnaionalbpaa

theorem Inv.of {m' : Mach} {g h i e now : Int} {l : List Ent} (hs : Sh m' g h i e l now) (nw : 0 ≤ now) (pg : g = -1 ∨ now ≤ g) (ph : h = -1 ∨ now ≤ h) (pi : i = -1 ∨ now ≤ i) (pe : e = -1 ∨ now ≤ e) (ha : ∀ x ∈ l, x.at_ ≤ now) (us : num 3 0 1000 l = 1) (uh : h ≤ now + 32000) (ui : i ≤ now + 5000) (ue : e ≤ now + 32000) : Inv m' g h i e now l := ⟨hs, nw, pg, ph, pi, pe, ha, us, uh, ui, ue⟩

/-- What an answer in state 3 makes. -/
theorem answ_inv {c g h i e now : Int} {l : List Ent} (hi : Inv ⟨3, 0, c⟩ g h i e now l) (hg : G3 l) (hall : g = -1 ∧ h = -1 ∧ i = -1 ∧ e = -1) (hsame : InvS ⟨⟨3, 0, c⟩, dueL g h i e, now, l⟩) (k : Int) :
    InvS (takeS ⟨⟨3, 0, c⟩, dueL g h i e, now, l⟩ (answS ⟨3, 0, c⟩ k).1 (answS ⟨3, 0, c⟩ k).2) := by
  obtain ⟨rfl, rfl, rfl, rfl⟩ := hall
  have nw := hi.nw
  unfold answS
  by_cases h1 : 101 ≤ k ∧ k ≤ 199
  · rw [if_pos h1]
    simp only
    rw [take_1 _ _ _ _ _ _ _ _ _ (by simp)]
    exact ⟨_, _, _, _, rfl, .of (.inl ⟨k, by omega, h1.2, rfl, rfl, rfl, rfl, rfl, hg.prov h1.2⟩) hi.nw hi.pg hi.ph hi.pi hi.pe (at_snoc hi.at_) (us_snoc hi.us (by simp)) hi.uh hi.ui hi.ue⟩
  rw [if_neg h1]
  by_cases h2 : 200 ≤ k ∧ k ≤ 299
  · rw [if_pos h2]
    have e1 : takeS ⟨⟨3, 0, c⟩, dueL (-1) (-1) (-1) (-1), now, l⟩ ⟨4, 0, k⟩ [⟨1, k, 0, 0⟩, ⟨4, 0, 12, 32000⟩] = ⟨⟨4, 0, k⟩, dueL (-1) (-1) (-1) (now + 32000), now, l ++ [⟨now, ⟨1, k, 0, 0⟩⟩] ++ [⟨now, ⟨4, 0, 12, 32000⟩⟩]⟩ := by
      simp [takeS, takeOne, dueL, show max (1 : Int) 32000 = 32000 from by decide]
    simp only
    rw [e1]
    have hp : now + 32000 = -1 ∨ now ≤ now + 32000 := .inr (by omega)
    exact ⟨_, _, _, _, rfl, .of (.inr (.inl ⟨k, h2.1, h2.2, rfl, rfl, rfl, rfl, by omega, hg.acc h2.2⟩)) hi.nw hi.pg hi.ph hi.pi hp (at_snoc (at_snoc hi.at_)) (us_snoc (us_snoc hi.us (by simp)) (by simp)) hi.uh hi.ui (Int.le_refl _)⟩
  rw [if_neg h2]
  by_cases h3 : 300 ≤ k ∧ k ≤ 699
  · rw [if_pos h3]
    have e1 : takeS ⟨⟨3, 0, c⟩, dueL (-1) (-1) (-1) (-1), now, l⟩ ⟨5, 500, k⟩ [⟨1, k, 0, 0⟩, ⟨4, 0, 7, 500⟩, ⟨4, 0, 8, 32000⟩] = ⟨⟨5, 500, k⟩, dueL (now + 500) (now + 32000) (-1) (-1), now, l ++ [⟨now, ⟨1, k, 0, 0⟩⟩] ++ [⟨now, ⟨4, 0, 7, 500⟩⟩] ++ [⟨now, ⟨4, 0, 8, 32000⟩⟩]⟩ := by
      simp [takeS, takeOne, dueL, show max (1 : Int) 32000 = 32000 from by decide, show max (1 : Int) 500 = 500 from by decide]
    simp only
    rw [e1]
    have hp1 : now + 500 = -1 ∨ now ≤ now + 500 := .inr (by omega)
    have hp2 : now + 32000 = -1 ∨ now ≤ now + 32000 := .inr (by omega)
    exact ⟨_, _, _, _, rfl, .of (.inr (.inr (.inl ⟨k, now, 0, h3.1, h3.2, by omega, rfl, nw, Int.le_refl _, (by simp only; omega), rfl, rfl, rfl, rfl, hg.rej h3.1 h3.2⟩))) hi.nw hp1 hp2 hi.pi hi.pe (at_snoc (at_snoc (at_snoc hi.at_))) (us_snoc (us_snoc (us_snoc hi.us (by simp)) (by simp)) (by simp)) (Int.le_refl _) hi.ui hi.ue⟩
  rw [if_neg h3]
  exact hsame

theorem give_inv {σ : Sim} (hS : InvS σ) (k c : Int) : InvS (giveS σ ⟨k, c, 0⟩) := by
  have hsame := hS
  obtain ⟨m, due, now, l⟩ := σ
  obtain ⟨g, h, i, e, hd, hi⟩ := hS
  simp only at hd hi
  subst hd
  unfold giveS
  simp only
  have nw := hi.nw
  rcases hi.sh with ⟨q, q1, q2, rfl, hg1, hh1, hi1, he1, hg⟩ | ⟨q, q1, q2, rfl, hg1, hh1, hi1, he1, hg⟩ | ⟨q, s, j, q1, q2, hj, rfl, s0, s1, s2, hg1, hh1, hi1, he1, hg⟩ | ⟨q, q1, q2, rfl, hi1, he1, hg⟩ | ⟨q, q1, q2, rfl, hg⟩
  · have pm := pm_3 q1 q2
    by_cases k1 : k = 1
    · subst k1
      have e1 : stepS ⟨3, 0, q⟩ ⟨1, c, 0⟩ = (⟨3, 0, q⟩, [⟨1, q, 0, 0⟩]) := by simp [stepS, pm]
      rw [e1]
      simp only
      rw [take_1 _ _ _ _ _ _ _ _ _ (by simp)]
      exact ⟨_, _, _, _, rfl, .of (.inl ⟨q, q1, q2, rfl, hg1, hh1, hi1, he1, hg.prov q2⟩) hi.nw hi.pg hi.ph hi.pi hi.pe (at_snoc hi.at_) (us_snoc hi.us (by simp)) hi.uh hi.ui hi.ue⟩
    by_cases k6 : k = 6
    · subst k6
      have e1 : stepS ⟨3, 0, q⟩ ⟨6, c, 0⟩ = (⟨7, 0, q⟩, [⟨6, 0, 0, 0⟩, ⟨7, 0, 0, 0⟩]) := by simp [stepS, pm]
      rw [e1]
      simp only
      rw [take_2 _ _ _ _ _ _ _ _ _ _ (by simp) (by simp)]
      exact ⟨_, _, _, _, rfl, .of (.inr (.inr (.inr (.inr ⟨q, q1, by omega, rfl, hg.fail⟩)))) hi.nw hi.pg hi.ph hi.pi hi.pe (at_snoc (at_snoc hi.at_)) (us_snoc (us_snoc hi.us (by simp)) (by simp)) hi.uh hi.ui hi.ue⟩
    by_cases k4 : k = 4
    · subst k4
      simpa [stepS, pm] using answ_inv hi hg ⟨hg1, hh1, hi1, he1⟩ hsame c
    simpa [stepS, pm, k1, k4, k6, take_same] using hsame
  · have pm := pm_4 q1 q2
    by_cases k4 : k = 4
    · subst k4
      by_cases hc : 200 ≤ c ∧ c ≤ 299
      · have e1 : stepS ⟨4, 0, q⟩ ⟨4, c, 0⟩ = (⟨4, 0, c⟩, [⟨1, c, 0, 0⟩]) := by simp [stepS, pm, hc]
        rw [e1]
        simp only
        rw [take_1 _ _ _ _ _ _ _ _ _ (by simp)]
        exact ⟨_, _, _, _, rfl, .of (.inr (.inl ⟨c, hc.1, hc.2, rfl, hg1, hh1, hi1, he1, hg.acc hc.2⟩)) hi.nw hi.pg hi.ph hi.pi hi.pe (at_snoc hi.at_) (us_snoc hi.us (by simp)) hi.uh hi.ui hi.ue⟩
      · simpa [stepS, pm, hc, take_same] using hsame
    by_cases k5 : k = 5
    · subst k5; simpa [stepS, pm, take_same] using hsame
    simpa [stepS, pm, k4, k5, take_same] using hsame
  · have pm := pm_5 j q1 q2
    by_cases k3 : k = 3
    · subst k3
      have e1 : stepS ⟨5, wK j, q⟩ ⟨3, c, 0⟩ = (⟨6, 0, q⟩, [⟨4, 0, 9, 5000⟩]) := by simp [stepS, pm]
      rw [e1]
      have e2 : takeS ⟨⟨5, wK j, q⟩, dueL g h i e, now, l⟩ ⟨6, 0, q⟩ [⟨4, 0, 9, 5000⟩] = ⟨⟨6, 0, q⟩, dueL g h (now + 5000) e, now, l ++ [⟨now, ⟨4, 0, 9, 5000⟩⟩]⟩ := by
        simp [takeS, takeOne, dueL, show max (1 : Int) 5000 = 5000 from by decide]
      simp only
      rw [e2]
      have hp : now + 5000 = -1 ∨ now ≤ now + 5000 := .inr (by omega)
      exact ⟨_, _, _, _, rfl, .of (.inr (.inr (.inr (.inl ⟨q, q1, q2, rfl, by omega, he1, hg.ack⟩)))) hi.nw hi.pg hi.ph hp hi.pe (at_snoc hi.at_) (us_snoc hi.us (by simp)) hi.uh (Int.le_refl _) hi.ue⟩
    by_cases k5 : k = 5
    · subst k5; simpa [stepS, pm, firedS, take_same] using hsame
    by_cases k1 : k = 1
    · subst k1
      have e1 : stepS ⟨5, wK j, q⟩ ⟨1, c, 0⟩ = (⟨5, wK j, q⟩, [⟨1, q, 0, 0⟩]) := by simp [stepS, pm]
      rw [e1]
      simp only
      rw [take_1 _ _ _ _ _ _ _ _ _ (by simp)]
      exact ⟨_, _, _, _, rfl, .of (.inr (.inr (.inl ⟨q, s, j, q1, q2, hj, rfl, s0, s1, s2, hg1, hh1, hi1, he1, hg.send⟩))) hi.nw hi.pg hi.ph hi.pi hi.pe (at_snoc hi.at_) (us_snoc hi.us (by simp)) hi.uh hi.ui hi.ue⟩
    by_cases k6 : k = 6
    · subst k6
      have e1 : stepS ⟨5, wK j, q⟩ ⟨6, c, 0⟩ = (⟨7, 0, q⟩, [⟨6, 0, 0, 0⟩, ⟨7, 0, 0, 0⟩]) := by simp [stepS, pm]
      rw [e1]
      simp only
      rw [take_2 _ _ _ _ _ _ _ _ _ _ (by simp) (by simp)]
      exact ⟨_, _, _, _, rfl, .of (.inr (.inr (.inr (.inr ⟨q, by omega, q2, rfl, hg.fail⟩)))) hi.nw hi.pg hi.ph hi.pi hi.pe (at_snoc (at_snoc hi.at_)) (us_snoc (us_snoc hi.us (by simp)) (by simp)) hi.uh hi.ui hi.ue⟩
    simpa [stepS, pm, k1, k3, k5, k6, take_same] using hsame
  · have pm := pm_6 q1 q2
    by_cases k5 : k = 5
    · subst k5; simpa [stepS, pm, take_same] using hsame
    simpa [stepS, pm, k5, take_same] using hsame
  · have pm := pm_7 q1 q2
    simpa [stepS, pm, take_same] using hsame
end Go.Proofs.Ytgjhnaionalbpaa
