/- The invariant of the simulated server is kept when a timer fires, and until ends with no timer due. -/
import Derived.Test.YtgjhnaionalbpaaTb
namespace Go.Proofs.Ytgjhnaionalbpaa

def pc (x : Int) : Nat := if 0 ≤ x then 1 else 0
def lv (x : Int) : Nat := if x = 31500 then 10 else if x = 30500 then 9 else if x = 28500 then 8 else if x = 24500 then 7 else if x = 20500 then 6 else if x = 16500 then 5 else if x = 12500 then 4 else if x = 8500 then 3 else if x = 4500 then 2 else if x = 500 then 1 else 0
def Phi (m : Mach) (g h i e : Int) : Nat := pc g + pc h + pc i + pc e + if m.st = 5 then lv (h - g) else 0
def J (T : Int) (m : Mach) (h i e : Int) : Prop := (m.st = 4 → e ≤ T) ∧ (m.st = 5 → h ≤ T) ∧ (m.st = 6 → i ≤ T)
theorem pc_pos {x : Int} (h : 0 ≤ x) : pc x = 1 := if_pos h
theorem pc_neg : pc (-1) = 0 := rfl
theorem lv_next {j : Nat} (h : j < 10) : lv (32000 - atK (j + 1)) = lv (32000 - atK (j + 1 + 1)) + 1 := by
  match j, h with
  | 0, _ | 1, _ | 2, _ | 3, _ | 4, _ | 5, _ | 6, _ | 7, _ | 8, _ | 9, _ => decide
theorem min_next {j : Nat} (h : j < 10) : min (2 * wK j) 4000 = wK (j + 1) := by
  match j, h with
  | 0, _ | 1, _ | 2, _ | 3, _ | 4, _ | 5, _ | 6, _ | 7, _ | 8, _ | 9, _ => decide
theorem at_small {j : Nat} (h : j < 10) : atK (j + 1) ≤ 31500 ∧ 0 ≤ atK (j + 1) := by
  match j, h with
  | 0, _ | 1, _ | 2, _ | 3, _ | 4, _ | 5, _ | 6, _ | 7, _ | 8, _ | 9, _ => decide
theorem wK_one {j : Nat} (h : j < 10) : max 1 (wK (j + 1)) = wK (j + 1) := by
  match j, h with
  | 0, _ | 1, _ | 2, _ | 3, _ | 4, _ | 5, _ | 6, _ | 7, _ | 8, _ | 9, _ => decide

structure Fd (t : Int) (m : Mach) (g h i e : Int) (l : List Ent) (σ' : Sim) : Prop where
  ex : ∃ g' h' i' e', σ'.due = dueL g' h' i' e' ∧ Inv σ'.m g' h' i' e' σ'.now σ'.log ∧ Phi σ'.m g' h' i' e' < Phi m g h i e ∧ (∀ T, J T m h i e → J T σ'.m h' i' e')
  nw : σ'.now ≤ t
  st : σ'.m.st = m.st ∨ σ'.m.st = 7
  code : σ'.m.code = m.code
  three : m.st = 3 → σ'.m.st = 3
  sends : m.st ≠ 5 → ∀ a b, num 1 a b σ'.log = num 1 a b l
  conf : conf l = true → conf σ'.log = true

theorem due_neg (g h i e : Int) : ∀ q, q < 14 → q ≠ 7 → q ≠ 8 → q ≠ 9 → q ≠ 12 → (dueL g h i e).getD q 0 = -1
  | 0, _, _, _, _, _ => rfl | 1, _, _, _, _, _ => rfl | 2, _, _, _, _, _ => rfl | 3, _, _, _, _, _ => rfl | 4, _, _, _, _, _ => rfl | 5, _, _, _, _, _ => rfl
  | 6, _, _, _, _, _ => rfl | 10, _, _, _, _, _ => rfl | 11, _, _, _, _, _ => rfl | 13, _, _, _, _, _ => rfl
  | 7, _, h, _, _, _ => absurd rfl h
  | 8, _, _, h, _, _ => absurd rfl h
  | 9, _, _, _, h, _ => absurd rfl h
  | 12, _, _, _, _, h => absurd rfl h
  | n + 14, h, _, _, _, _ => absurd h (by omega)

theorem pend_ok {x now u t : Int} (h : x = -1 ∨ now ≤ x) (hm : 0 ≤ x ∧ x ≤ t → u ≤ x) (hu : u ≤ t) (hn : 0 ≤ now) : x = -1 ∨ u ≤ x := by
  rcases h with h | h
  · exact .inl h
  · by_cases ht : x ≤ t
    · exact .inr (hm ⟨by omega, ht⟩)
    · exact .inr (by omega)

/-- A timer that the state does not know. -/
theorem fire_none {t : Int} {m : Mach} {g h i e g' h' i' e' now u : Int} {l : List Ent} (hi : Inv m g h i e now l) {f : Int} (hf : stepS m ⟨5, 0, f⟩ = (m, [])) (hn : now ≤ u) (hu : u ≤ t)
    (ha : g' = -1 ∨ u ≤ g') (hb : h' = -1 ∨ u ≤ h') (hd : i' = -1 ∨ u ≤ i') (he : e' = -1 ∨ u ≤ e') (hsh : Sh m g' h' i' e' l u) (hs : m.st ≠ 5) (hs3 : m.st ≠ 4) (hJ : i' = i) (hp : pc g' + pc h' + pc i' + pc e' < pc g + pc h + pc i + pc e)
    (uh : h' ≤ u + 32000) (ui : i' ≤ u + 5000) (ue : e' ≤ u + 32000) :
    Fd t m g h i e l (giveS ⟨m, dueL g' h' i' e', u, l⟩ ⟨5, 0, f⟩) := by
  have e1 : giveS ⟨m, dueL g' h' i' e', u, l⟩ ⟨5, 0, f⟩ = ⟨m, dueL g' h' i' e', u, l⟩ := by
    unfold giveS; simp only; rw [hf]; rfl
  rw [e1]
  have nw := hi.nw
  refine ⟨⟨g', h', i', e', rfl, .of hsh (by simp only; omega) ha hb hd he (at_mono hi.at_ hn) hi.us uh ui ue, ?_, fun T hT => ⟨fun h4 => absurd h4 hs3, fun h5 => absurd h5 hs, fun h6 => by rw [hJ]; exact hT.2.2 h6⟩⟩, hu, .inl rfl, rfl, fun h => h, fun _ _ _ => rfl, fun h => h⟩
  unfold Phi; simp only [hs, if_false]; omega

theorem fire_inv {t : Int} {m : Mach} {g h i e now : Int} {l : List Ent} (hi : Inv m g h i e now l) (ht : now ≤ t) (hf : 0 ≤ scan (dueL g h i e) t 14) :
    Fd t m g h i e l (fire ⟨m, dueL g h i e, now, l⟩ (scan (dueL g h i e) t 14).toNat) := by
  have hr := scan_range (dueL g h i e) t 14
  have hdu := scan_due (dueL g h i e) t 14 hf
  have hmin := (scan_min (dueL g h i e) t 14).2 hf
  have m7 := hmin 7 (by omega); have m8 := hmin 8 (by omega); have m9 := hmin 9 (by omega); have m12 := hmin 12 (by omega)
  have g7 : (dueL g h i e).getD 7 0 = g := rfl
  have g8 : (dueL g h i e).getD 8 0 = h := rfl
  have g9 : (dueL g h i e).getD 9 0 = i := rfl
  have g12 : (dueL g h i e).getD 12 0 = e := rfl
  rw [g7] at m7; rw [g8] at m8; rw [g9] at m9; rw [g12] at m12
  have hneg := due_neg g h i e (scan (dueL g h i e) t 14).toNat (by omega)
  generalize hfn : (scan (dueL g h i e) t 14).toNat = fn at *
  clear hr hf hfn hmin
  have nw := hi.nw
  have pg := hi.pg; have ph := hi.ph; have pi := hi.pi; have pe := hi.pe
  have uh := hi.uh; have ui := hi.ui; have ue := hi.ue
  unfold fire
  simp only
  rcases hi.sh with ⟨q, q1, q2, rfl, hg1, hh1, hi1, he1, hg⟩ | ⟨q, q1, q2, rfl, hg1, hh1, hi1, he1, hg⟩ | ⟨q, s, j, q1, q2, hj, rfl, s0, s1, s2, hg1, hh1, hi1, he1, hg⟩ | ⟨q, q1, q2, rfl, hi1, he1, hg⟩ | ⟨q, q1, q2, rfl, hg⟩
  · exfalso
    by_cases f7 : fn = 7
    · subst f7; omega
    by_cases f8 : fn = 8
    · subst f8; omega
    by_cases f9 : fn = 9
    · subst f9; omega
    by_cases f12 : fn = 12
    · subst f12; omega
    have := hneg f7 f8 f9 f12; omega
  · by_cases f12 : fn = 12
    · subst f12
      rw [g12] at hdu m7 m8 m9 m12 ⊢
      have hp : pc e = 1 := pc_pos hdu.1
      have e1 : giveS ⟨⟨4, 0, q⟩, (dueL g h i e).set 12 (-1), e, l⟩ ⟨5, 0, ((12 : Nat) : Int)⟩ = ⟨⟨7, 0, q⟩, dueL g h i (-1), e, l ++ [⟨e, ⟨7, 0, 0, 0⟩⟩]⟩ := by
        show takeS ⟨⟨4, 0, q⟩, dueL g h i (-1), e, l⟩ _ _ = _
        have e2 : stepS ⟨4, 0, q⟩ ⟨5, 0, ((12 : Nat) : Int)⟩ = (⟨7, 0, q⟩, [⟨7, 0, 0, 0⟩]) := by simp [stepS, pm_4 q1 q2]
        rw [e2]
        exact take_1 _ _ _ _ _ _ _ _ _ (by simp)
      rw [e1]
      refine ⟨⟨g, h, i, -1, rfl, .of (.inr (.inr (.inr (.inr ⟨q, by omega, by omega, rfl, hg.fin⟩)))) (by simp only; omega) (pend_ok pg m7 hdu.2 nw) (pend_ok ph m8 hdu.2 nw) (pend_ok pi m9 hdu.2 nw) (.inl rfl) (at_snoc (at_mono hi.at_ (by omega))) (us_snoc hi.us (by simp)) (show h ≤ e + 32000 by omega) (show i ≤ e + 5000 by omega) (show (-1 : Int) ≤ e + 32000 by omega), ?_, fun T hJ => ⟨fun h => by simp at h, fun h => by simp at h, fun h => by simp at h⟩⟩, by simp only; omega, .inr rfl, rfl, fun h => by simp at h, fun _ a b => by simp only; rw [num_snoc, if_neg (by simp)]; rfl, fun hc => by simp only; rw [conf_snoc, hc]; rfl⟩
      simp only [Phi, pc_neg, hp]
      simp
    · exfalso
      by_cases f7 : fn = 7
      · subst f7; omega
      by_cases f8 : fn = 8
      · subst f8; omega
      by_cases f9 : fn = 9
      · subst f9; omega
      have := hneg f7 f8 f9 f12; omega
  · have pm := pm_5 j q1 q2
    by_cases f7 : fn = 7
    · subst f7
      rw [g7] at hdu m7 m8 m9 m12 ⊢
      have hp : pc g = 1 := pc_pos hdu.1
      have hj10 : j < 10 := by
        rcases Nat.lt_or_ge j 10 with h1 | h1
        · exact h1
        · obtain rfl : j = 10 := by omega
          simp only [atK] at hg1
          have := m8 ⟨by omega, by omega⟩
          omega
      obtain ⟨x1, x2⟩ := at_small hj10
      have hat := atK_next (k := j + 1) (by omega)
      have hw := wK_range (k := j + 1) (by omega)
      have e1 : giveS ⟨⟨5, wK j, q⟩, (dueL g h i e).set 7 (-1), g, l⟩ ⟨5, 0, ((7 : Nat) : Int)⟩ = ⟨⟨5, wK (j + 1), q⟩, dueL (s + atK (j + 1 + 1)) h i e, g, l ++ [⟨g, ⟨1, q, 0, 0⟩⟩] ++ [⟨g, ⟨4, 0, 7, wK (j + 1)⟩⟩]⟩ := by
        show takeS ⟨⟨5, wK j, q⟩, dueL (-1) h i e, g, l⟩ _ _ = _
        have e2 : stepS ⟨5, wK j, q⟩ ⟨5, 0, ((7 : Nat) : Int)⟩ = (⟨5, wK (j + 1), q⟩, [⟨1, q, 0, 0⟩, ⟨4, 0, 7, wK (j + 1)⟩]) := by simp [stepS, pm, firedS, min_next hj10]
        rw [e2]
        have e3 : g + wK (j + 1) = s + atK (j + 1 + 1) := by omega
        simp [takeS, takeOne, dueL, wK_one hj10, e3]
      rw [e1]
      refine ⟨⟨s + atK (j + 1 + 1), h, i, e, rfl, .of (.inr (.inr (.inl ⟨q, s, j + 1, q1, q2, by omega, rfl, s0, (by simp only; omega), (by simp only; omega), rfl, hh1, hi1, he1, hg.send.timer⟩))) (by simp only; omega) (.inr (by simp only; omega)) (pend_ok ph m8 hdu.2 nw) (pend_ok pi m9 hdu.2 nw) (pend_ok pe m12 hdu.2 nw) (at_snoc (at_snoc (at_mono hi.at_ (by omega)))) (us_snoc (us_snoc hi.us (by simp)) (by simp)) (show h ≤ g + 32000 by omega) (show i ≤ g + 5000 by omega) (show e ≤ g + 32000 by omega), ?_, fun T hJ => ⟨fun h => by simp at h, fun _ => hJ.2.1 rfl, fun h => by simp at h⟩⟩, by simp only; omega, .inl rfl, rfl, fun h => by simp at h, fun h => by simp at h, fun hc => by simp only; rw [conf_snoc, conf_snoc, hc]; rfl⟩
      have hl := lv_next hj10
      have hp2 : pc (s + atK (j + 1 + 1)) = 1 := pc_pos (by omega)
      have d1 : h - g = 32000 - atK (j + 1) := by omega
      have d2 : h - (s + atK (j + 1 + 1)) = 32000 - atK (j + 1 + 1) := by omega
      simp only [Phi, if_true, d1, d2]
      omega
    by_cases f8 : fn = 8
    · subst f8
      rw [g8] at hdu m7 m8 m9 m12 ⊢
      have hp : pc h = 1 := pc_pos hdu.1
      have e1 : giveS ⟨⟨5, wK j, q⟩, (dueL g h i e).set 8 (-1), h, l⟩ ⟨5, 0, ((8 : Nat) : Int)⟩ = ⟨⟨7, 0, q⟩, dueL g (-1) i e, h, l ++ [⟨h, ⟨5, 0, 0, 0⟩⟩] ++ [⟨h, ⟨7, 0, 0, 0⟩⟩]⟩ := by
        show takeS ⟨⟨5, wK j, q⟩, dueL g (-1) i e, h, l⟩ _ _ = _
        have e2 : stepS ⟨5, wK j, q⟩ ⟨5, 0, ((8 : Nat) : Int)⟩ = (⟨7, 0, q⟩, [⟨5, 0, 0, 0⟩, ⟨7, 0, 0, 0⟩]) := by simp [stepS, pm, firedS]
        rw [e2]
        exact take_2 _ _ _ _ _ _ _ _ _ _ (by simp) (by simp)
      rw [e1]
      refine ⟨⟨g, -1, i, e, rfl, .of (.inr (.inr (.inr (.inr ⟨q, by omega, q2, rfl, hg.out⟩)))) (by simp only; omega) (pend_ok pg m7 hdu.2 nw) (.inl rfl) (pend_ok pi m9 hdu.2 nw) (pend_ok pe m12 hdu.2 nw) (at_snoc (at_snoc (at_mono hi.at_ (by omega)))) (us_snoc (us_snoc hi.us (by simp)) (by simp)) (show (-1 : Int) ≤ h + 32000 by omega) (show i ≤ h + 5000 by omega) (show e ≤ h + 32000 by omega), ?_, fun T hJ => ⟨fun h => by simp at h, fun h => by simp at h, fun h => by simp at h⟩⟩, by simp only; omega, .inr rfl, rfl, fun h => by simp at h, fun h => by simp at h, fun hc => by simp only; rw [conf_snoc, conf_snoc, hc]; rfl⟩
      simp only [Phi, pc_neg, hp, if_true]
      simp
      omega
    · exfalso
      by_cases f9 : fn = 9
      · subst f9; omega
      by_cases f12 : fn = 12
      · subst f12; omega
      have := hneg f7 f8 f9 f12; omega
  · have pm := pm_6 q1 q2
    by_cases f9 : fn = 9
    · subst f9
      rw [g9] at hdu m7 m8 m9 m12 ⊢
      have hp : pc i = 1 := pc_pos hdu.1
      have e1 : giveS ⟨⟨6, 0, q⟩, (dueL g h i e).set 9 (-1), i, l⟩ ⟨5, 0, ((9 : Nat) : Int)⟩ = ⟨⟨7, 0, q⟩, dueL g h (-1) e, i, l ++ [⟨i, ⟨7, 0, 0, 0⟩⟩]⟩ := by
        show takeS ⟨⟨6, 0, q⟩, dueL g h (-1) e, i, l⟩ _ _ = _
        have e2 : stepS ⟨6, 0, q⟩ ⟨5, 0, ((9 : Nat) : Int)⟩ = (⟨7, 0, q⟩, [⟨7, 0, 0, 0⟩]) := by simp [stepS, pm]
        rw [e2]
        exact take_1 _ _ _ _ _ _ _ _ _ (by simp)
      rw [e1]
      refine ⟨⟨g, h, -1, e, rfl, .of (.inr (.inr (.inr (.inr ⟨q, by omega, q2, rfl, hg.fin⟩)))) (by simp only; omega) (pend_ok pg m7 hdu.2 nw) (pend_ok ph m8 hdu.2 nw) (.inl rfl) (pend_ok pe m12 hdu.2 nw) (at_snoc (at_mono hi.at_ (by omega))) (us_snoc hi.us (by simp)) (show h ≤ i + 32000 by omega) (show (-1 : Int) ≤ i + 5000 by omega) (show e ≤ i + 32000 by omega), ?_, fun T hJ => ⟨fun h => by simp at h, fun h => by simp at h, fun h => by simp at h⟩⟩, by simp only; omega, .inr rfl, rfl, fun h => by simp at h, fun _ a b => by simp only; rw [num_snoc, if_neg (by simp)]; rfl, fun hc => by simp only; rw [conf_snoc, hc]; rfl⟩
      simp only [Phi, pc_neg, hp]
      simp
    by_cases f7 : fn = 7
    · subst f7
      rw [g7] at hdu m7 m8 m9 m12 ⊢
      have hp : pc g = 1 := pc_pos hdu.1
      exact fire_none hi (g' := -1) (h' := h) (i' := i) (e' := e) (u := g) (by simp [stepS, pm]) (by omega) hdu.2 (.inl rfl) (pend_ok ph m8 hdu.2 nw) (pend_ok pi m9 hdu.2 nw) (pend_ok pe m12 hdu.2 nw) (.inr (.inr (.inr (.inl ⟨q, q1, q2, rfl, hi1, he1, hg⟩)))) (by simp) (by simp) rfl (by rw [pc_neg, hp]; omega) (by omega) (by omega) (by omega)
    by_cases f8 : fn = 8
    · subst f8
      rw [g8] at hdu m7 m8 m9 m12 ⊢
      have hp : pc h = 1 := pc_pos hdu.1
      exact fire_none hi (g' := g) (h' := -1) (i' := i) (e' := e) (u := h) (by simp [stepS, pm]) (by omega) hdu.2 (pend_ok pg m7 hdu.2 nw) (.inl rfl) (pend_ok pi m9 hdu.2 nw) (pend_ok pe m12 hdu.2 nw) (.inr (.inr (.inr (.inl ⟨q, q1, q2, rfl, hi1, he1, hg⟩)))) (by simp) (by simp) rfl (by rw [pc_neg, hp]; omega) (by omega) (by omega) (by omega)
    · exfalso
      by_cases f12 : fn = 12
      · subst f12; omega
      have := hneg f7 f8 f9 f12; omega
  · have pm := pm_7 q1 q2
    have hsh : ∀ a b c d u, Sh ⟨7, 0, q⟩ a b c d l u := fun a b c d u => .inr (.inr (.inr (.inr ⟨q, q1, q2, rfl, hg⟩)))
    have hst : ∀ f, stepS ⟨7, 0, q⟩ ⟨5, 0, f⟩ = (⟨7, 0, q⟩, []) := fun f => by simp [stepS, pm]
    have seven : ∀ {g' h' i' e' u : Int} {f : Int}, now ≤ u → u ≤ t → (g' = -1 ∨ u ≤ g') → (h' = -1 ∨ u ≤ h') → (i' = -1 ∨ u ≤ i') → (e' = -1 ∨ u ≤ e') → pc g' + pc h' + pc i' + pc e' < pc g + pc h + pc i + pc e → h' ≤ u + 32000 → i' ≤ u + 5000 → e' ≤ u + 32000 →
        Fd t ⟨7, 0, q⟩ g h i e l (giveS ⟨⟨7, 0, q⟩, dueL g' h' i' e', u, l⟩ ⟨5, 0, f⟩) := by
      intro g' h' i' e' u f hn hu ha hb hd he hp x1 x2 x3
      have e1 : giveS ⟨⟨7, 0, q⟩, dueL g' h' i' e', u, l⟩ ⟨5, 0, f⟩ = ⟨⟨7, 0, q⟩, dueL g' h' i' e', u, l⟩ := by
        unfold giveS; simp only; rw [hst]; rfl
      rw [e1]
      refine ⟨⟨g', h', i', e', rfl, .of (hsh _ _ _ _ _) (by simp only; omega) ha hb hd he (at_mono hi.at_ hn) hi.us x1 x2 x3, ?_, fun T hT => ⟨fun h => by simp at h, fun h => by simp at h, fun h => by simp at h⟩⟩, hu, .inl rfl, rfl, fun h => h, fun _ _ _ => rfl, fun h => h⟩
      unfold Phi; simp; omega
    by_cases f7 : fn = 7
    · subst f7
      rw [g7] at hdu m7 m8 m9 m12 ⊢
      have hp : pc g = 1 := pc_pos hdu.1
      exact seven (g' := -1) (h' := h) (i' := i) (e' := e) (by omega) hdu.2 (.inl rfl) (pend_ok ph m8 hdu.2 nw) (pend_ok pi m9 hdu.2 nw) (pend_ok pe m12 hdu.2 nw) (by rw [pc_neg, hp]; omega) (by omega) (by omega) (by omega)
    by_cases f8 : fn = 8
    · subst f8
      rw [g8] at hdu m7 m8 m9 m12 ⊢
      have hp : pc h = 1 := pc_pos hdu.1
      exact seven (g' := g) (h' := -1) (i' := i) (e' := e) (by omega) hdu.2 (pend_ok pg m7 hdu.2 nw) (.inl rfl) (pend_ok pi m9 hdu.2 nw) (pend_ok pe m12 hdu.2 nw) (by rw [pc_neg, hp]; omega) (by omega) (by omega) (by omega)
    by_cases f9 : fn = 9
    · subst f9
      rw [g9] at hdu m7 m8 m9 m12 ⊢
      have hp : pc i = 1 := pc_pos hdu.1
      exact seven (g' := g) (h' := h) (i' := -1) (e' := e) (by omega) hdu.2 (pend_ok pg m7 hdu.2 nw) (pend_ok ph m8 hdu.2 nw) (.inl rfl) (pend_ok pe m12 hdu.2 nw) (by rw [pc_neg, hp]; omega) (by omega) (by omega) (by omega)
    by_cases f12 : fn = 12
    · subst f12
      rw [g12] at hdu m7 m8 m9 m12 ⊢
      have hp : pc e = 1 := pc_pos hdu.1
      exact seven (g' := g) (h' := h) (i' := i) (e' := -1) (by omega) hdu.2 (pend_ok pg m7 hdu.2 nw) (pend_ok ph m8 hdu.2 nw) (pend_ok pi m9 hdu.2 nw) (.inl rfl) (by rw [pc_neg, hp]; omega) (by omega) (by omega) (by omega)
    exfalso
    have := hneg f7 f8 f9 f12; omega

/-- What until leaves: no timer is due up to t. -/
structure Quiet (t : Int) (m : Mach) (h i e : Int) (l : List Ent) (σ' : Sim) : Prop where
  ex : ∃ g' h' i' e', σ'.due = dueL g' h' i' e' ∧ Inv σ'.m g' h' i' e' σ'.now σ'.log ∧ (g' = -1 ∨ t < g') ∧ (h' = -1 ∨ t < h') ∧ (i' = -1 ∨ t < i') ∧ (e' = -1 ∨ t < e') ∧ (∀ T, J T m h i e → J T σ'.m h' i' e')
  nw : σ'.now ≤ t
  st : σ'.m.st = m.st ∨ σ'.m.st = 7
  code : σ'.m.code = m.code
  three : m.st = 3 → σ'.m.st = 3
  sends : m.st ≠ 5 → ∀ a b, num 1 a b σ'.log = num 1 a b l
  conf : conf l = true → conf σ'.log = true

theorem untilR_inv {t : Int} : ∀ (n : Nat) {m : Mach} {g h i e now : Int} {l : List Ent}, Inv m g h i e now l → now ≤ t → Phi m g h i e ≤ n → Quiet t m h i e l (untilR t n ⟨m, dueL g h i e, now, l⟩) := by
  intro n
  induction n with
  | zero =>
    intro m g h i e now l hi ht hP
    have hz : pc g = 0 ∧ pc h = 0 ∧ pc i = 0 ∧ pc e = 0 := by unfold Phi at hP; omega
    have neg : ∀ x : Int, pc x = 0 → (x = -1 ∨ now ≤ x) → x = -1 := by
      intro x hx hp
      rcases hp with hp | hp
      · exact hp
      · have := hi.nw; rw [pc_pos (by omega)] at hx; cases hx
    exact ⟨⟨g, h, i, e, rfl, hi, .inl (neg g hz.1 hi.pg), .inl (neg h hz.2.1 hi.ph), .inl (neg i hz.2.2.1 hi.pi), .inl (neg e hz.2.2.2 hi.pe), fun _ hJ => hJ⟩, ht, .inl rfl, rfl, fun h => h, fun _ _ _ => rfl, fun h => h⟩
  | succ n ih =>
    intro m g h i e now l hi ht hP
    rw [untilR]
    by_cases hs : scan (dueL g h i e) t 14 < 0
    · simp only [hs, if_true]
      have hm := (scan_min (dueL g h i e) t 14).1 hs
      have far : ∀ q, q < 14 → ∀ x : Int, (dueL g h i e).getD q 0 = x → (x = -1 ∨ now ≤ x) → x = -1 ∨ t < x := by
        intro q hq x hx hp
        rcases hp with hp | hp
        · exact .inl hp
        · have h1 := hm q hq
          rw [hx] at h1
          have := hi.nw
          exact .inr (by omega)
      exact ⟨⟨g, h, i, e, rfl, hi, far 7 (by omega) g rfl hi.pg, far 8 (by omega) h rfl hi.ph, far 9 (by omega) i rfl hi.pi, far 12 (by omega) e rfl hi.pe, fun _ hJ => hJ⟩, ht, .inl rfl, rfl, fun h => h, fun _ _ _ => rfl, fun h => h⟩
    · simp only [hs, if_false]
      obtain ⟨⟨g', h', i', e', hd, hi', hphi, hJ⟩, hnw, hst, hcode, h3, hse, hco⟩ := fire_inv hi ht (by omega)
      generalize fire ⟨m, dueL g h i e, now, l⟩ (scan (dueL g h i e) t 14).toNat = σ' at *
      obtain ⟨m', due', now', l'⟩ := σ'
      simp only at hd hi' hphi hJ hnw hst hcode h3 hse hco
      subst hd
      obtain ⟨⟨a2, b2, d2, e2, q1, q2, q3, q4, q5, q6, q7⟩, r1, r2, r3, r4, r5, r6⟩ := ih hi' hnw (by omega)
      refine ⟨⟨a2, b2, d2, e2, q1, q2, q3, q4, q5, q6, fun T hT => q7 T (hJ T hT)⟩, r1, ?_, r3.trans hcode, fun h => r4 (h3 h), fun h5 a b => ?_, fun h => r6 (hco h)⟩
      · rcases r2 with r2 | r2
        · rw [r2]; exact hst
        · exact .inr r2
      · rw [r5 (by rcases hst with hst | hst <;> omega) a b, hse h5 a b]

theorem Phi_le (m : Mach) (g h i e : Int) : Phi m g h i e ≤ 200 := by
  have p1 : ∀ x, pc x ≤ 1 := fun x => by unfold pc; split <;> omega
  have hl : ∀ w, lv w ≤ 10 := fun w => by unfold lv; repeat' split
                                          all_goals omega
  have := p1 g; have := p1 h; have := p1 i; have := p1 e; have := hl (h - g)
  unfold Phi; split <;> omega

/-- until keeps the invariant, and leaves no timer due. -/
theorem until_inv {m : Mach} {g h i e now : Int} {l : List Ent} (hi : Inv m g h i e now l) {t : Int} (ht : now ≤ t) :
    ∃ m' g' h' i' e' l', untilS ⟨m, dueL g h i e, now, l⟩ t = ⟨m', dueL g' h' i' e', t, l'⟩ ∧ Inv m' g' h' i' e' t l' ∧ (g' = -1 ∨ t < g') ∧ (h' = -1 ∨ t < h') ∧ (i' = -1 ∨ t < i') ∧ (e' = -1 ∨ t < e') ∧ (∀ T, J T m h i e → J T m' h' i' e') ∧ (m'.st = m.st ∨ m'.st = 7) ∧ m'.code = m.code ∧ (m.st = 3 → m'.st = 3) ∧ (m.st ≠ 5 → ∀ a b, num 1 a b l' = num 1 a b l) ∧ (conf l = true → conf l' = true) := by
  obtain ⟨⟨a2, b2, d2, e2, q1, q2, q3, q4, q5, q6, q7⟩, r1, r2, r3, r4, r5, r6⟩ := untilR_inv 200 hi ht (Phi_le _ _ _ _ _)
  unfold untilS
  generalize untilR t 200 ⟨m, dueL g h i e, now, l⟩ = σ' at *
  obtain ⟨m', due', now', l'⟩ := σ'
  simp only at q1 q2 q7 r1 r2 r3 r4 r5 r6 ⊢
  subst q1
  have hmax : max now' t = t := by omega
  rw [hmax]
  have nw := hi.nw
  have pen : ∀ {x : Int}, (x = -1 ∨ t < x) → (x = -1 ∨ t ≤ x) := fun hx => by omega
  refine ⟨m', a2, b2, d2, e2, l', rfl, ⟨?_, by omega, pen q3, pen q4, pen q5, pen q6, at_mono q2.at_ r1, q2.us, by have := q2.uh; omega, by have := q2.ui; omega, by have := q2.ue; omega⟩, q3, q4, q5, q6, q7, r2, r3, r4, r5, r6⟩
  rcases q2.sh with hx | hx | ⟨q, s, j, y1, y2, hj, rfl, s0, s1, s2, hg1, hh1, hi1, he1, hg⟩ | hx | hx
  · exact .inl hx
  · exact .inr (.inl hx)
  · exact .inr (.inr (.inl ⟨q, s, j, y1, y2, hj, rfl, s0, by omega, by omega, hg1, hh1, hi1, he1, hg⟩))
  · exact .inr (.inr (.inr (.inl hx)))
  · exact .inr (.inr (.inr (.inr hx)))
end Go.Proofs.Ytgjhnaionalbpaa
