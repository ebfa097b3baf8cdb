/- The invariant of the simulated client is kept when a timer fires, and until ends with no timer due. -/
import Derived.Test.YtdooohanhekniaaTb
namespace Go.Proofs.Ytdooohanhekniaa

def pc (x : Int) : Nat := if 0 ≤ x then 1 else 0
def lv (w : Int) : Nat := if w = 500 then 6 else if w = 1000 then 5 else if w = 2000 then 4 else if w = 4000 then 3 else if w = 8000 then 2 else if w = 16000 then 1 else 0
def Phi (m : Mach) (a b d e : Int) : Nat := pc a + pc b + pc d + pc e + if m.st = 1 then lv m.wait else 0
def J (T : Int) (m : Mach) (d e : Int) : Prop := (m.st = 1 → 32000 ≤ T) ∧ (m.st = 4 → e ≤ T) ∧ (m.st = 5 → d ≤ T)
theorem pc_pos {x : Int} (h : 0 ≤ x) : pc x = 1 := if_pos h
theorem pc_neg : pc (-1) = 0 := rfl
theorem lv_next {j : Nat} (h : j < 6) : lv (wK j) = lv (wK (j + 1)) + 1 := by
  match j, h with
  | 0, _ | 1, _ | 2, _ | 3, _ | 4, _ | 5, _ => decide
theorem min_next {j : Nat} (h : j < 6) : min (2 * wK j) 32000 = wK (j + 1) := by
  match j, h with
  | 0, _ | 1, _ | 2, _ | 3, _ | 4, _ | 5, _ => decide
theorem at_next {j : Nat} (h : j < 6) : atK (j + 1) + wK (j + 1) = atK (j + 1 + 1) := atK_next (by omega)
theorem at_small {j : Nat} (h : j < 6) : atK (j + 1) ≤ 31500 ∧ 0 ≤ atK (j + 1) := by
  match j, h with
  | 0, _ | 1, _ | 2, _ | 3, _ | 4, _ | 5, _ => decide
theorem wK_one {j : Nat} (h : j < 6) : max 1 (wK (j + 1)) = wK (j + 1) := by
  match j, h with
  | 0, _ | 1, _ | 2, _ | 3, _ | 4, _ | 5, _ => decide

structure Fd (t : Int) (m : Mach) (a b d e : Int) (σ' : Sim) : Prop where
  ex : ∃ a' b' d' e', σ'.due = dueL a' b' d' e' ∧ Inv σ'.m a' b' d' e' σ'.now σ'.log ∧ Phi σ'.m a' b' d' e' < Phi m a b d e ∧ (∀ T, J T m d e → J T σ'.m d' e')
  nw : σ'.now ≤ t
  three : σ'.m.st = 3 ↔ m.st = 3

theorem due_neg (a b d e : Int) : ∀ i, i < 14 → i ≠ 1 → i ≠ 2 → i ≠ 4 → i ≠ 13 → (dueL a b d e).getD i 0 = -1
  | 0, _, _, _, _, _ => rfl | 3, _, _, _, _, _ => rfl | 5, _, _, _, _, _ => rfl | 6, _, _, _, _, _ => rfl | 7, _, _, _, _, _ => rfl | 8, _, _, _, _, _ => rfl
  | 9, _, _, _, _, _ => rfl | 10, _, _, _, _, _ => rfl | 11, _, _, _, _, _ => rfl | 12, _, _, _, _, _ => rfl
  | 1, _, h, _, _, _ => absurd rfl h
  | 2, _, _, h, _, _ => absurd rfl h
  | 4, _, _, _, h, _ => absurd rfl h
  | 13, _, _, _, _, h => absurd rfl h
  | n + 14, h, _, _, _, _ => absurd h (by omega)

/-- The machine is possible. -/
theorem Inv.may {m : Mach} {a b d e now : Int} {l : List Ent} (h : Inv m a b d e now l) : mayB m.st m.wait m.code = true := by
  rcases h.sh with ⟨j, hj, rfl, _⟩ | ⟨rfl, _⟩ | ⟨q, q1, q2, rfl, _⟩ | ⟨q, q1, q2, rfl, _⟩ | ⟨q, hq, rfl, _⟩
  · exact pm_1 hj
  · exact pm_3
  · exact pm_4 q1 q2
  · exact pm_5 q1 q2
  · exact pm_7 hq
theorem tim_step {m : Mach} {f : Int} (h : mayB m.st m.wait m.code = true) : stepS m ⟨5, 0, f⟩ = timS m f := by simp [stepS, h]

/-- A timer that the state does not know. -/
theorem fire_none {t : Int} {m : Mach} {a b d e a' b' d' e' now u : Int} {l : List Ent} (h : Inv m a b d e now l) {f : Int} (hf : timS m f = (m, [])) (hn : now ≤ u) (hu : u ≤ t)
    (ha : a' = -1 ∨ u ≤ a') (hb : b' = -1 ∨ u ≤ b') (hd : d' = -1 ∨ u ≤ d') (he : e' = -1 ∨ u ≤ e') (hs : m.st ≠ 1) (hs4 : m.st = 4 → e' = e) (hs5 : m.st = 5 → d' = d) (hp : pc a' + pc b' + pc d' + pc e' < pc a + pc b + pc d + pc e) (ud : d' ≤ u + 32000) (ue : e' ≤ u + 32000) :
    Fd t m a b d e (giveS ⟨m, dueL a' b' d' e', u, l⟩ ⟨5, 0, f⟩) := by
  have e1 : giveS ⟨m, dueL a' b' d' e', u, l⟩ ⟨5, 0, f⟩ = ⟨m, dueL a' b' d' e', u, l⟩ := by
    unfold giveS; simp only; rw [tim_step h.may, hf]; rfl
  rw [e1]
  have hsh : Sh m a' b' d' e' l u := by
    rcases h.sh with ⟨j, hj, rfl, _⟩ | ⟨rfl, hg⟩ | ⟨q, q1, q2, rfl, h4, hg⟩ | ⟨q, q1, q2, rfl, h5, hg⟩ | ⟨q, hq, rfl, hg⟩
    · exact absurd rfl hs
    · exact .inr (.inl ⟨rfl, hg⟩)
    · exact .inr (.inr (.inl ⟨q, q1, q2, rfl, by rw [hs4 rfl]; exact h4, hg⟩))
    · exact .inr (.inr (.inr (.inl ⟨q, q1, q2, rfl, by rw [hs5 rfl]; exact h5, hg⟩)))
    · exact .inr (.inr (.inr (.inr ⟨q, hq, rfl, hg⟩)))
  refine ⟨⟨a', b', d', e', rfl, .mk' hsh (by have := h.nw; simp only; omega) ha hb hd he (at_mono h.at_ hn) h.ord ud ue, ?_, fun T hJ => ⟨fun h1 => absurd h1 hs, fun h4 => by rw [hs4 h4]; exact hJ.2.1 h4, fun h5 => by rw [hs5 h5]; exact hJ.2.2 h5⟩⟩, hu, Iff.rfl⟩
  unfold Phi; simp only [hs, if_false]; omega

theorem pend_ok {x now u t : Int} (h : x = -1 ∨ now ≤ x) (hm : 0 ≤ x ∧ x ≤ t → u ≤ x) (hu : u ≤ t) (hn : 0 ≤ now) : x = -1 ∨ u ≤ x := by
  rcases h with h | h
  · exact .inl h
  · by_cases ht : x ≤ t
    · exact .inr (hm ⟨by omega, ht⟩)
    · exact .inr (by omega)

theorem fire_inv {t : Int} {m : Mach} {a b d e now : Int} {l : List Ent} (h : Inv m a b d e now l) (ht : now ≤ t) (hf : 0 ≤ scan (dueL a b d e) t 14) :
    Fd t m a b d e (fire ⟨m, dueL a b d e, now, l⟩ (scan (dueL a b d e) t 14).toNat) := by
  have hr := scan_range (dueL a b d e) t 14
  have hdu := scan_due (dueL a b d e) t 14 hf
  have hmin := (scan_min (dueL a b d e) t 14).2 hf
  have m1 := hmin 1 (by omega); have m2 := hmin 2 (by omega); have m4 := hmin 4 (by omega); have m13 := hmin 13 (by omega)
  have g1 : (dueL a b d e).getD 1 0 = a := rfl
  have g2 : (dueL a b d e).getD 2 0 = b := rfl
  have g4 : (dueL a b d e).getD 4 0 = d := rfl
  have g13 : (dueL a b d e).getD 13 0 = e := rfl
  rw [g1] at m1; rw [g2] at m2; rw [g4] at m4; rw [g13] at m13
  have hneg := due_neg a b d e (scan (dueL a b d e) t 14).toNat (by omega)
  generalize hfn : (scan (dueL a b d e) t 14).toNat = fn at *
  clear hr hf hfn hmin
  have nw := h.nw
  have ud := h.ud; have ue := h.ue
  have pa := h.pa; have pb := h.pb; have pd := h.pd; have pe := h.pe
  unfold fire
  simp only
  by_cases f1 : fn = 1
  · subst f1
    rw [g1] at hdu m1 m2 m4 m13 ⊢
    have hp : pc a = 1 := pc_pos hdu.1
    have hset : (dueL a b d e).set 1 (-1) = dueL (-1) b d e := rfl
    rw [hset]
    by_cases hs : m.st = 1
    · rcases h.sh with ⟨j, hj, rfl, ha, hb, hd, he, hn, hg⟩ | ⟨rfl, hg⟩ | ⟨q, q1, q2, rfl, h4, hg⟩ | ⟨q, q1, q2, rfl, h5, hg⟩ | ⟨q, hq, rfl, hg⟩
      rotate_left
      · cases hs
      · cases hs
      · cases hs
      · cases hs
      have hj6 : j < 6 := by
        rcases Nat.lt_or_ge j 6 with h1 | h1
        · exact h1
        · obtain rfl : j = 6 := by omega
          simp only [atK] at ha
          have := m2 ⟨by omega, by omega⟩
          omega
      obtain ⟨s1, s2⟩ := at_small hj6
      have e1 : giveS ⟨⟨1, wK j, 0⟩, dueL (-1) b d e, a, l⟩ ⟨5, 0, ((1 : Nat) : Int)⟩ = ⟨⟨1, wK (j + 1), 0⟩, dueL (atK (j + 1 + 1)) b d e, a, l ++ [⟨a, ⟨1, 0, 0, 0⟩⟩] ++ [⟨a, ⟨4, 0, 1, wK (j + 1)⟩⟩]⟩ := by
        unfold giveS
        simp only
        rw [tim_step (pm_1 hj)]
        have e2 : timS ⟨1, wK j, 0⟩ ((1 : Nat) : Int) = (⟨1, wK (j + 1), 0⟩, [⟨1, 0, 0, 0⟩, ⟨4, 0, 1, wK (j + 1)⟩]) := by simp [timS, min_next hj6]
        rw [e2]
        simp [takeS, takeOne, dueL, wK_one hj6, ha, at_next hj6]
      rw [e1]
      have g1' : G1 (l ++ [⟨a, ⟨1, 0, 0, 0⟩⟩] ++ [⟨a, ⟨4, 0, 1, wK (j + 1)⟩⟩]) := by
        obtain ⟨x1, x2, x3, x4, x5, x6⟩ := hg
        refine ⟨?_, ?_, ?_, ?_, ?_, ?_⟩
        · rw [num_snoc, num_snoc, x1, if_neg (by simp), if_neg (by simp)]
        · rw [num_snoc, num_snoc, x2, if_neg (by simp), if_neg (by simp)]
        · rw [num_snoc, num_snoc, x3, if_neg (by simp), if_neg (by simp)]
        · rw [num_snoc, num_snoc, x4, if_neg (by simp), if_neg (by simp)]
        · rw [num_snoc, num_snoc, x5, if_neg (by simp), if_neg (by simp)]
        · rw [fin_snoc, fin_snoc, x6]; simp
      have hw := wK_range (k := j + 1) (by omega)
      have hat := at_next hj6
      refine ⟨⟨atK (j + 1 + 1), b, d, e, rfl, .mk' (.inl ⟨j + 1, by omega, rfl, rfl, hb, hd, he, by simp only; omega, g1'⟩) (by simp only; omega) (.inr (by simp only; omega)) (.inr (by simp only; omega)) (.inl hd) (.inl he) (at_snoc (at_snoc (at_mono h.at_ (by omega)))) ((h.ord.snoc (by simp)).snoc (by simp)) (show d ≤ a + 32000 by omega) (show e ≤ a + 32000 by omega), ?_, fun T hJ => hJ⟩, by simp only; omega, by simp⟩
      have hl := lv_next hj6
      have hp2 : pc (atK (j + 1 + 1)) = 1 := pc_pos (by omega)
      simp only [Phi, if_true]
      omega
    · exact fire_none h (u := a) (by simp [timS, hs]) (by omega) (by omega) (.inl rfl) (pend_ok pb m2 hdu.2 nw) (pend_ok pd m4 hdu.2 nw) (pend_ok pe m13 hdu.2 nw) hs (fun _ => rfl) (fun _ => rfl) (by rw [pc_neg, hp]; omega) (by omega) (by omega)
  by_cases f2 : fn = 2
  · subst f2
    rw [g2] at hdu m1 m2 m4 m13 ⊢
    have hp : pc b = 1 := pc_pos hdu.1
    have hset : (dueL a b d e).set 2 (-1) = dueL a (-1) d e := rfl
    rw [hset]
    by_cases hs : m.st = 1
    · rcases h.sh with ⟨j, hj, rfl, ha, hb, hd, he, hn, hg⟩ | ⟨rfl, hg⟩ | ⟨q, q1, q2, rfl, h4, hg⟩ | ⟨q, q1, q2, rfl, h5, hg⟩ | ⟨q, hq, rfl, hg⟩
      rotate_left
      · cases hs
      · cases hs
      · cases hs
      · cases hs
      have e1 : giveS ⟨⟨1, wK j, 0⟩, dueL a (-1) d e, b, l⟩ ⟨5, 0, ((2 : Nat) : Int)⟩ = ⟨⟨7, 0, 0⟩, dueL a (-1) d e, b, l ++ [⟨b, ⟨5, 0, 0, 0⟩⟩] ++ [⟨b, ⟨7, 0, 0, 0⟩⟩]⟩ := by
        unfold giveS
        simp only
        rw [tim_step (pm_1 hj)]
        have e2 : timS ⟨1, wK j, 0⟩ ((2 : Nat) : Int) = (⟨7, 0, 0⟩, [⟨5, 0, 0, 0⟩, ⟨7, 0, 0, 0⟩]) := by simp [timS]
        rw [e2]
        exact take_2 _ _ _ _ _ _ _ _ _ _ (by simp) (by simp)
      rw [e1]
      refine ⟨⟨a, -1, d, e, rfl, .mk' (.inr (.inr (.inr (.inr ⟨0, .inl rfl, rfl, hg.end2 (.inl rfl)⟩)))) (by simp only; omega) (pend_ok pa m1 hdu.2 nw) (.inl rfl) (pend_ok pd m4 hdu.2 nw) (pend_ok pe m13 hdu.2 nw) (at_snoc (at_snoc (at_mono h.at_ (by omega)))) ((h.ord.snoc (by simp)).snoc (by simp)) (show d ≤ b + 32000 by omega) (show e ≤ b + 32000 by omega), ?_, fun T hJ => ⟨fun h => by simp at h, fun h => by simp at h, fun h => by simp at h⟩⟩, by simp only; omega, by simp⟩
      simp only [Phi, if_true, pc_neg, hp]
      simp
      omega
    · exact fire_none h (u := b) (by simp [timS, hs]) (by omega) (by omega) (pend_ok pa m1 hdu.2 nw) (.inl rfl) (pend_ok pd m4 hdu.2 nw) (pend_ok pe m13 hdu.2 nw) hs (fun _ => rfl) (fun _ => rfl) (by rw [pc_neg, hp]; omega) (by omega) (by omega)
  by_cases f4 : fn = 4
  · subst f4
    rw [g4] at hdu m1 m2 m4 m13 ⊢
    have hp : pc d = 1 := pc_pos hdu.1
    have hset : (dueL a b d e).set 4 (-1) = dueL a b (-1) e := rfl
    rw [hset]
    have hs1 : m.st ≠ 1 := by
      rcases h.sh with ⟨j, hj, rfl, ha, hb, hd, he, hn, hg⟩ | ⟨rfl, hg⟩ | ⟨q, q1, q2, rfl, h4, hg⟩ | ⟨q, q1, q2, rfl, h5, hg⟩ | ⟨q, hq, rfl, hg⟩
      · omega
      · simp
      · simp
      · simp
      · simp
    by_cases hs : m.st = 5
    · rcases h.sh with ⟨j, hj, rfl, ha, hb, hd, he, hn, hg⟩ | ⟨rfl, hg⟩ | ⟨q, q1, q2, rfl, h4, hg⟩ | ⟨q, q1, q2, rfl, h5, hg⟩ | ⟨q, hq, rfl, hg⟩
      · cases hs
      · cases hs
      · cases hs
      rotate_left
      · cases hs
      have e1 : giveS ⟨⟨5, 0, q⟩, dueL a b (-1) e, d, l⟩ ⟨5, 0, ((4 : Nat) : Int)⟩ = ⟨⟨7, 0, q⟩, dueL a b (-1) e, d, l ++ [⟨d, ⟨7, 0, 0, 0⟩⟩]⟩ := by
        unfold giveS
        simp only
        rw [tim_step (pm_5 q1 q2)]
        have e2 : timS ⟨5, 0, q⟩ ((4 : Nat) : Int) = (⟨7, 0, q⟩, [⟨7, 0, 0, 0⟩]) := by simp [timS]
        rw [e2]
        exact take_1 _ _ _ _ _ _ _ _ _ (by simp)
      rw [e1]
      refine ⟨⟨a, b, -1, e, rfl, .mk' (.inr (.inr (.inr (.inr ⟨q, .inr ⟨by omega, q2⟩, rfl, hg.end1⟩)))) (by simp only; omega) (pend_ok pa m1 hdu.2 nw) (pend_ok pb m2 hdu.2 nw) (.inl rfl) (pend_ok pe m13 hdu.2 nw) (at_snoc (at_mono h.at_ (by omega))) (h.ord.snoc (by simp)) (show (-1 : Int) ≤ d + 32000 by omega) (show e ≤ d + 32000 by omega), ?_, fun T hJ => ⟨fun h => by simp at h, fun h => by simp at h, fun h => by simp at h⟩⟩, by simp only; omega, by simp⟩
      simp only [Phi, pc_neg, hp]
      simp
    · exact fire_none h (u := d) (by simp [timS, hs, hs1]) (by omega) (by omega) (pend_ok pa m1 hdu.2 nw) (pend_ok pb m2 hdu.2 nw) (.inl rfl) (pend_ok pe m13 hdu.2 nw) hs1 (fun _ => rfl) (fun h5 => absurd h5 hs) (by rw [pc_neg, hp]; omega) (by omega) (by omega)
  by_cases f13 : fn = 13
  · subst f13
    rw [g13] at hdu m1 m2 m4 m13 ⊢
    have hp : pc e = 1 := pc_pos hdu.1
    have hset : (dueL a b d e).set 13 (-1) = dueL a b d (-1) := rfl
    rw [hset]
    have hs1 : m.st ≠ 1 := by
      rcases h.sh with ⟨j, hj, rfl, ha, hb, hd, he, hn, hg⟩ | ⟨rfl, hg⟩ | ⟨q, q1, q2, rfl, h4, hg⟩ | ⟨q, q1, q2, rfl, h5, hg⟩ | ⟨q, hq, rfl, hg⟩
      · omega
      · simp
      · simp
      · simp
      · simp
    by_cases hs : m.st = 4
    · rcases h.sh with ⟨j, hj, rfl, ha, hb, hd, he, hn, hg⟩ | ⟨rfl, hg⟩ | ⟨q, q1, q2, rfl, h4, hg⟩ | ⟨q, q1, q2, rfl, h5, hg⟩ | ⟨q, hq, rfl, hg⟩
      · cases hs
      · cases hs
      rotate_left
      · cases hs
      · cases hs
      have e1 : giveS ⟨⟨4, 0, q⟩, dueL a b d (-1), e, l⟩ ⟨5, 0, ((13 : Nat) : Int)⟩ = ⟨⟨7, 0, q⟩, dueL a b d (-1), e, l ++ [⟨e, ⟨7, 0, 0, 0⟩⟩]⟩ := by
        unfold giveS
        simp only
        rw [tim_step (pm_4 q1 q2)]
        have e2 : timS ⟨4, 0, q⟩ ((13 : Nat) : Int) = (⟨7, 0, q⟩, [⟨7, 0, 0, 0⟩]) := by simp [timS]
        rw [e2]
        exact take_1 _ _ _ _ _ _ _ _ _ (by simp)
      rw [e1]
      refine ⟨⟨a, b, d, -1, rfl, .mk' (.inr (.inr (.inr (.inr ⟨q, .inr ⟨by omega, by omega⟩, rfl, hg.end1⟩)))) (by simp only; omega) (pend_ok pa m1 hdu.2 nw) (pend_ok pb m2 hdu.2 nw) (pend_ok pd m4 hdu.2 nw) (.inl rfl) (at_snoc (at_mono h.at_ (by omega))) (h.ord.snoc (by simp)) (show d ≤ e + 32000 by omega) (show (-1 : Int) ≤ e + 32000 by omega), ?_, fun T hJ => ⟨fun h => by simp at h, fun h => by simp at h, fun h => by simp at h⟩⟩, by simp only; omega, by simp⟩
      simp only [Phi, pc_neg, hp]
      simp
    · exact fire_none h (u := e) (by simp [timS, hs, hs1]) (by omega) (by omega) (pend_ok pa m1 hdu.2 nw) (pend_ok pb m2 hdu.2 nw) (pend_ok pd m4 hdu.2 nw) (.inl rfl) hs1 (fun h5 => absurd h5 hs) (fun _ => rfl) (by rw [pc_neg, hp]; omega) (by omega) (by omega)
  have := hneg f1 f2 f4 f13
  omega

/-- What until leaves: no timer is due up to t. -/
structure Quiet (t : Int) (m : Mach) (d e : Int) (σ' : Sim) : Prop where
  ex : ∃ a' b' d' e', σ'.due = dueL a' b' d' e' ∧ Inv σ'.m a' b' d' e' σ'.now σ'.log ∧ (a' = -1 ∨ t < a') ∧ (b' = -1 ∨ t < b') ∧ (d' = -1 ∨ t < d') ∧ (e' = -1 ∨ t < e') ∧ (∀ T, J T m d e → J T σ'.m d' e')
  nw : σ'.now ≤ t
  three : σ'.m.st = 3 ↔ m.st = 3

theorem untilR_inv {t : Int} : ∀ (n : Nat) {m : Mach} {a b d e now : Int} {l : List Ent}, Inv m a b d e now l → now ≤ t → Phi m a b d e ≤ n → Quiet t m d e (untilR t n ⟨m, dueL a b d e, now, l⟩) := by
  intro n
  induction n with
  | zero =>
    intro m a b d e now l h ht hP
    have hz : pc a = 0 ∧ pc b = 0 ∧ pc d = 0 ∧ pc e = 0 := by unfold Phi at hP; omega
    have neg : ∀ x : Int, pc x = 0 → (x = -1 ∨ now ≤ x) → x = -1 := by
      intro x hx hp
      rcases hp with hp | hp
      · exact hp
      · have := h.nw; rw [pc_pos (by omega)] at hx; cases hx
    exact ⟨⟨a, b, d, e, rfl, h, .inl (neg a hz.1 h.pa), .inl (neg b hz.2.1 h.pb), .inl (neg d hz.2.2.1 h.pd), .inl (neg e hz.2.2.2 h.pe), fun _ hJ => hJ⟩, ht, Iff.rfl⟩
  | succ n ih =>
    intro m a b d e now l h ht hP
    rw [untilR]
    by_cases hs : scan (dueL a b d e) t 14 < 0
    · simp only [hs, if_true]
      have hm := (scan_min (dueL a b d e) t 14).1 hs
      have far : ∀ i, i < 14 → ∀ x : Int, (dueL a b d e).getD i 0 = x → (x = -1 ∨ now ≤ x) → x = -1 ∨ t < x := by
        intro i hi x hx hp
        rcases hp with hp | hp
        · exact .inl hp
        · have h1 := hm i hi
          rw [hx] at h1
          have := h.nw
          exact .inr (by omega)
      exact ⟨⟨a, b, d, e, rfl, h, far 1 (by omega) a rfl h.pa, far 2 (by omega) b rfl h.pb, far 4 (by omega) d rfl h.pd, far 13 (by omega) e rfl h.pe, fun _ hJ => hJ⟩, ht, Iff.rfl⟩
    · simp only [hs, if_false]
      obtain ⟨⟨a', b', d', e', hd, hi, hphi, hJ⟩, hnw, h3⟩ := fire_inv h ht (by omega)
      generalize fire ⟨m, dueL a b d e, now, l⟩ (scan (dueL a b d e) t 14).toNat = σ' at *
      obtain ⟨m', due', now', l'⟩ := σ'
      simp only at hd hi hphi hJ hnw h3
      subst hd
      obtain ⟨⟨a2, b2, d2, e2, q1, q2, q3, q4, q5, q6, q7⟩, r1, r2⟩ := ih hi hnw (by omega)
      exact ⟨⟨a2, b2, d2, e2, q1, q2, q3, q4, q5, q6, fun T hT => q7 T (hJ T hT)⟩, r1, r2.trans h3⟩

theorem Phi_le {m : Mach} {a b d e now : Int} {l : List Ent} (h : Inv m a b d e now l) : Phi m a b d e ≤ 200 := by
  have p1 : ∀ x, pc x ≤ 1 := fun x => by unfold pc; split <;> omega
  have hl : ∀ w, lv w ≤ 6 := fun w => by unfold lv; repeat' split
                                         all_goals omega
  have := p1 a; have := p1 b; have := p1 d; have := p1 e; have := hl m.wait
  unfold Phi; split <;> omega

/-- until keeps the invariant, and leaves no timer due. -/
theorem until_inv {m : Mach} {a b d e now : Int} {l : List Ent} (h : Inv m a b d e now l) {t : Int} (ht : now ≤ t) :
    ∃ m' a' b' d' e' l', untilS ⟨m, dueL a b d e, now, l⟩ t = ⟨m', dueL a' b' d' e', t, l'⟩ ∧ Inv m' a' b' d' e' t l' ∧ (a' = -1 ∨ t < a') ∧ (b' = -1 ∨ t < b') ∧ (d' = -1 ∨ t < d') ∧ (e' = -1 ∨ t < e') ∧ (∀ T, J T m d e → J T m' d' e') ∧ (m'.st = 3 ↔ m.st = 3) := by
  obtain ⟨⟨a2, b2, d2, e2, q1, q2, q3, q4, q5, q6, q7⟩, r1, r2⟩ := untilR_inv 200 h ht (Phi_le h)
  unfold untilS
  generalize untilR t 200 ⟨m, dueL a b d e, now, l⟩ = σ' at *
  obtain ⟨m', due', now', l'⟩ := σ'
  simp only at q1 q2 q7 r1 r2 ⊢
  subst q1
  have hmax : max now' t = t := by omega
  rw [hmax]
  have nw := h.nw
  refine ⟨m', a2, b2, d2, e2, l', rfl, ⟨?_, by omega, ?_, ?_, ?_, ?_, at_mono q2.at_ r1, q2.ord, by have := q2.ud; omega, by have := q2.ue; omega⟩, q3, q4, q5, q6, q7, r2⟩
  · rcases q2.sh with ⟨j, hj, rfl, ha, hb, hd, he, hn, hg⟩ | ⟨rfl, hg⟩ | ⟨q, y1, y2, rfl, h4, hg⟩ | ⟨q, y1, y2, rfl, h5, hg⟩ | ⟨q, hq, rfl, hg⟩
    · exact .inl ⟨j, hj, rfl, ha, hb, hd, he, by omega, hg⟩
    · exact .inr (.inl ⟨rfl, hg⟩)
    · exact .inr (.inr (.inl ⟨q, y1, y2, rfl, h4, hg⟩))
    · exact .inr (.inr (.inr (.inl ⟨q, y1, y2, rfl, h5, hg⟩)))
    · exact .inr (.inr (.inr (.inr ⟨q, hq, rfl, hg⟩)))
  · rcases q3 with h | h
    · exact .inl h
    · exact .inr (by omega)
  · rcases q4 with h | h
    · exact .inl h
    · exact .inr (by omega)
  · rcases q5 with h | h
    · exact .inl h
    · exact .inr (by omega)
  · rcases q6 with h | h
    · exact .inl h
    · exact .inr (by omega)
end Go.Proofs.Ytdooohanhekniaa
