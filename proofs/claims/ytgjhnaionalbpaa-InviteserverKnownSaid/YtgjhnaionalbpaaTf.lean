/- The simulated server that repeats a rejecting answer. -/
import Derived.Test.YtgjhnaionalbpaaTd
namespace Go.Proofs.Ytgjhnaionalbpaa

def comLog (c : Int) : Nat → List Ent
  | 0 => [⟨0, ⟨3, 0, 0, 0⟩⟩] ++ [⟨0, ⟨1, 100, 0, 0⟩⟩] ++ [⟨700, ⟨1, c, 0, 0⟩⟩] ++ [⟨700, ⟨4, 0, 7, 500⟩⟩] ++ [⟨700, ⟨4, 0, 8, 32000⟩⟩]
  | k + 1 => comLog c k ++ [⟨700 + atK (k + 1), ⟨1, c, 0, 0⟩⟩] ++ [⟨700 + atK (k + 1), ⟨4, 0, 7, wK (k + 1)⟩⟩]
def comS (c : Int) (k : Nat) : Sim := ⟨⟨5, wK k, c⟩, dueL (700 + atK (k + 1)) 32700 (-1) (-1), 700 + atK k, comLog c k⟩
def rej0 (c : Int) : Sim := giveS (untilS startS 700) ⟨4, c, 0⟩

theorem scan_gh (g h t : Int) : scan (dueL g h (-1) (-1)) t 14 = if 0 ≤ g ∧ g ≤ t then (if 0 ≤ h ∧ h ≤ t ∧ h < g then 8 else 7) else if 0 ≤ h ∧ h ≤ t then 8 else -1 := by
  have e7 : scan (dueL g h (-1) (-1)) t 7 = -1 := by simp [scan, dueL]
  have e8 : scan (dueL g h (-1) (-1)) t 8 = if 0 ≤ g ∧ g ≤ t then 7 else -1 := by
    rw [scan, e7]; simp [dueL]
  have e9 : scan (dueL g h (-1) (-1)) t 9 = if 0 ≤ g ∧ g ≤ t then (if 0 ≤ h ∧ h ≤ t ∧ h < g then 8 else 7) else if 0 ≤ h ∧ h ≤ t then 8 else -1 := by
    rw [scan, e8]
    by_cases hc : 0 ≤ g ∧ g ≤ t
    · simp [hc, dueL]
    · simp [hc, dueL]
  have step : ∀ i, 9 ≤ i → i < 14 → scan (dueL g h (-1) (-1)) t (i + 1) = scan (dueL g h (-1) (-1)) t i := by
    intro i h1 h2
    have hd : (dueL g h (-1) (-1)).getD i 0 = -1 := by
      match i, h1, h2 with
      | 9, _, _ | 10, _, _ | 11, _, _ | 12, _, _ | 13, _, _ => rfl
    rw [scan, hd, if_neg (by omega)]
  rw [step 13 (by omega) (by omega), step 12 (by omega) (by omega), step 11 (by omega) (by omega), step 10 (by omega) (by omega), step 9 (by omega) (by omega), e9]

theorem start_700 : untilS startS 700 = ⟨⟨3, 0, 100⟩, dueL (-1) (-1) (-1) (-1), 700, [⟨0, ⟨3, 0, 0, 0⟩⟩] ++ [⟨0, ⟨1, 100, 0, 0⟩⟩]⟩ := by rfl
theorem rej0_is {c : Int} (h1 : 300 ≤ c) (h2 : c ≤ 699) : rej0 c = comS c 0 := by
  unfold rej0
  rw [start_700]
  unfold giveS
  have e2 : stepS ⟨3, 0, 100⟩ ⟨4, c, 0⟩ = (⟨5, 500, c⟩, [⟨1, c, 0, 0⟩, ⟨4, 0, 7, 500⟩, ⟨4, 0, 8, 32000⟩]) := by
    have pm : mayB 3 0 100 = true := by decide
    simp [stepS, pm, answS, h1, h2, show ¬ (c ≤ 199) by omega, show ¬ (c ≤ 299) by omega]
  simp only
  rw [e2]
  simp [takeS, takeOne, dueL, comS, comLog, wK, atK, show max (1 : Int) 32000 = 32000 from by decide, show max (1 : Int) 500 = 500 from by decide]

section
variable {c : Int} (h1 : 300 ≤ c) (h2 : c ≤ 699)
include h1 h2
theorem fire_com {k : Nat} (hk : k < 10) : fire (comS c k) 7 = comS c (k + 1) := by
  have hat := atK_next (k := k + 1) (by omega)
  unfold fire
  show giveS ⟨⟨5, wK k, c⟩, dueL (-1) 32700 (-1) (-1), 700 + atK (k + 1), comLog c k⟩ ⟨5, 0, ((7 : Nat) : Int)⟩ = _
  unfold giveS
  have e2 : stepS ⟨5, wK k, c⟩ ⟨5, 0, ((7 : Nat) : Int)⟩ = (⟨5, wK (k + 1), c⟩, [⟨1, c, 0, 0⟩, ⟨4, 0, 7, wK (k + 1)⟩]) := by simp [stepS, pm_5 k h1 h2, firedS, min_next hk]
  simp only
  rw [e2]
  have e3 : 700 + atK (k + 1) + wK (k + 1) = 700 + atK (k + 1 + 1) := by omega
  simp [takeS, takeOne, dueL, comS, comLog, wK_one hk, e3]
theorem go_com {t : Int} {k n : Nat} (hk : k < 10) (h : 700 + atK (k + 1) ≤ t) : untilR t (n + 1) (comS c k) = untilR t n (comS c (k + 1)) := by
  obtain ⟨x1, x2⟩ := at_small hk
  have hs : scan (comS c k).due t 14 = 7 := by
    show scan (dueL (700 + atK (k + 1)) 32700 (-1) (-1)) t 14 = 7
    rw [scan_gh, if_pos ⟨by omega, h⟩, if_neg (by omega)]
  rw [untilR, hs, if_neg (by omega)]
  show untilR t n (fire (comS c k) 7) = _
  rw [fire_com h1 h2 hk]
omit h1 h2 in
theorem stop_com {t : Int} {k n : Nat} (h : t < 700 + atK (k + 1)) (h' : t < 32700) : untilR t (n + 1) (comS c k) = comS c k := by
  have hs : scan (comS c k).due t 14 = -1 := by
    show scan (dueL (700 + atK (k + 1)) 32700 (-1) (-1)) t 14 = -1
    rw [scan_gh, if_neg (by omega), if_neg (by omega)]
  rw [untilR, hs, if_pos (by omega)]
theorem reach_com {t : Int} : ∀ k : Nat, k ≤ 10 → 700 + atK k ≤ t → untilR t 200 (comS c 0) = untilR t (200 - k) (comS c k)
  | 0, _, _ => rfl
  | k + 1, hk, h => by
    have := atK_mono (k := k) (by omega)
    rw [reach_com k (by omega) (by omega), show 200 - k = (200 - (k + 1)) + 1 by omega, go_com h1 h2 (by omega) h]
end

theorem comLog_at (c : Int) : ∀ k, k ≤ 10 → ∀ x ∈ comLog c k, x.at_ ≤ 700 + atK k
  | 0, _ => by
    intro x hx
    simp only [comLog, List.mem_append, List.mem_singleton] at hx
    rcases hx with (((rfl | rfl) | rfl) | rfl) | rfl <;> simp [atK]
  | k + 1, hk => by
    have hm := atK_mono (k := k) (by omega)
    have ih := comLog_at c k (by omega)
    exact at_snoc (at_snoc (at_mono ih (by omega)))
theorem comLog_num {c : Int} (h1 : 300 ≤ c) : ∀ k, num 1 c c (comLog c k) = k + 1
  | 0 => by
    simp only [comLog]
    rw [num_snoc, num_snoc, num_snoc, num_snoc]
    simp [num]
    omega
  | k + 1 => by
    simp only [comLog]
    rw [num_snoc, num_snoc, comLog_num h1 k, if_pos ⟨rfl, Int.le_refl _, Int.le_refl _⟩, if_neg (by simp)]
theorem comLog_5 (c u : Int) : ∀ k, cnt 5 u 0 1000 (comLog c k) = 0
  | 0 => by
    simp only [comLog]
    rw [cnt_snoc, cnt_snoc, cnt_snoc, cnt_snoc]
    simp [hit, cnt]
  | k + 1 => by
    simp only [comLog]
    rw [cnt_snoc, cnt_snoc, comLog_5 c u k]
    simp [hit]

/-- The machine waits for the timer I. -/
theorem six_keep {t c i : Int} {l : List Ent} (h1 : 300 ≤ c) (h2 : c ≤ 699) (hi : t < i) : ∀ (n : Nat) (g h now : Int), ∃ g' h' now', untilR t n ⟨⟨6, 0, c⟩, dueL g h i (-1), now, l⟩ = ⟨⟨6, 0, c⟩, dueL g' h' i (-1), now', l⟩
  | 0, g, h, now => ⟨g, h, now, rfl⟩
  | n + 1, g, h, now => by
    rw [untilR]
    by_cases hs : scan (dueL g h i (-1)) t 14 < 0
    · simp only [hs, if_true]; exact ⟨g, h, now, rfl⟩
    · simp only [hs, if_false]
      have hf : 0 ≤ scan (dueL g h i (-1)) t 14 := by omega
      have hr := scan_range (dueL g h i (-1)) t 14
      have hdu := scan_due (dueL g h i (-1)) t 14 hf
      have hneg := due_neg g h i (-1) (scan (dueL g h i (-1)) t 14).toNat (by omega)
      generalize (scan (dueL g h i (-1)) t 14).toNat = fn at *
      have hst : ∀ f : Int, f ≠ 9 → stepS ⟨6, 0, c⟩ ⟨5, 0, f⟩ = (⟨6, 0, c⟩, []) := fun f hf => by simp [stepS, pm_6 h1 h2, hf]
      by_cases f7 : fn = 7
      · subst f7
        have e1 : fire ⟨⟨6, 0, c⟩, dueL g h i (-1), now, l⟩ 7 = ⟨⟨6, 0, c⟩, dueL (-1) h i (-1), g, l⟩ := by
          unfold fire giveS; simp only; rw [hst _ (by omega)]; rfl
        rw [e1]; exact six_keep h1 h2 hi n _ _ _
      by_cases f8 : fn = 8
      · subst f8
        have e1 : fire ⟨⟨6, 0, c⟩, dueL g h i (-1), now, l⟩ 8 = ⟨⟨6, 0, c⟩, dueL g (-1) i (-1), h, l⟩ := by
          unfold fire giveS; simp only; rw [hst _ (by omega)]; rfl
        rw [e1]; exact six_keep h1 h2 hi n _ _ _
      exfalso
      by_cases f9 : fn = 9
      · subst f9
        have hd : (dueL g h i (-1)).getD 9 0 = i := rfl
        rw [hd] at hdu; omega
      by_cases f12 : fn = 12
      · subst f12
        have hd : (dueL g h i (-1)).getD 12 0 = -1 := rfl
        rw [hd] at hdu; omega
      have := hneg f7 f8 f9 f12; omega

def repA (c t : Int) : Sim := untilS (rej0 c) (700 + t)
def repB (c t : Int) : Sim := giveS (repA c t) ⟨3, 0, 0⟩
def repC (c t : Int) : Sim := untilS (repB c t) ((repB c t).now + 4999)
def repD (c t : Int) : Sim := untilS (repC c t) ((repC c t).now + 1)

theorem rej0_inv {c : Int} : InvS (rej0 c) := give_inv (start_inv.until_ (t := 700) (by rw [startS_now]; omega)).1 4 c
theorem rej0_now {c : Int} : (rej0 c).now = 700 := by
  unfold rej0; rw [giveS_now]; rw [start_700]

theorem rep_lt {c t : Int} (h1 : 300 ≤ c) (h2 : c ≤ 699) (h0 : 0 ≤ t) (ht : t < 32000) :
    (InvS (repA c t) ∧ (repA c t).now = 700 + t ∧ (repA c t).m.st = 5 ∧ cnt 1 (700 + t) c c (repA c t).log = copiesS t) ∧
    ((repB c t).now = 700 + t ∧ InvS (repB c t)) ∧
    (InvS (repC c t) ∧ (repC c t).now = 5699 + t ∧ (repC c t).m = ⟨6, 0, c⟩) ∧
    (InvS (repD c t) ∧ (repD c t).now = 5700 + t ∧ (repD c t).m.st = 7 ∧ cnt 5 (5700 + t) 0 1000 (repD c t).log = 0 ∧ cnt 1 (5700 + t) c c (repD c t).log = copiesS t) := by
  obtain ⟨k, hk, x1, x2⟩ : ∃ k : Nat, k ≤ 10 ∧ atK k ≤ t ∧ t < atK (k + 1) := by
    have : ∀ k : Nat, k ≤ 11 → t < atK k → ∃ j : Nat, j ≤ 10 ∧ atK j ≤ t ∧ t < atK (j + 1) := by
      intro k
      induction k with
      | zero => intro _ h; simp only [atK] at h; omega
      | succ k ih =>
        intro hk h
        by_cases hc : t < atK k
        · exact ih (by omega) hc
        · exact ⟨k, by omega, by omega, h⟩
    exact this 11 (by omega) (by simp only [atK]; omega)
  have hmon : ∀ j, j ≤ k → atK j ≤ t := by
    intro j hj
    have hd : ∀ d, d ≤ k → atK (k - d) ≤ t := by
      intro d
      induction d with
      | zero => intro _; exact x1
      | succ d ih =>
        intro hd
        have h3 := ih (by omega)
        have h4 := atK_mono (k := k - (d + 1)) (by omega)
        rw [show k - (d + 1) + 1 = k - d by omega] at h4
        omega
    have h5 := hd (k - j) (by omega)
    rwa [show k - (k - j) = j by omega] at h5
  have hc : copiesS t = ((k + 1 : Nat) : Int) := copies_is (by omega) (fun j hj => hmon j (by omega)) (fun _ => x2)
  have eA : repA c t = { comS c k with now := 700 + t } := by
    unfold repA untilS
    rw [rej0_is h1 h2, reach_com h1 h2 k hk (by omega), show 200 - k = (199 - k) + 1 by omega, stop_com (by omega) (by omega)]
    have : max (comS c k).now (700 + t) = 700 + t := by show max (700 + atK k) (700 + t) = _; omega
    rw [this]
  have iA : InvS (repA c t) := (rej0_inv.until_ (by rw [rej0_now]; omega)).1
  have nA : (repA c t).now = 700 + t := by rw [eA]
  have hat : ∀ x ∈ comLog c k, x.at_ ≤ 700 + t := at_mono (comLog_at c k hk) (by omega)
  have eB : repB c t = ⟨⟨6, 0, c⟩, dueL (700 + atK (k + 1)) 32700 (5700 + t) (-1), 700 + t, comLog c k ++ [⟨700 + t, ⟨4, 0, 9, 5000⟩⟩]⟩ := by
    unfold repB
    rw [eA]
    unfold giveS comS
    have e2 : stepS ⟨5, wK k, c⟩ ⟨3, 0, 0⟩ = (⟨6, 0, c⟩, [⟨4, 0, 9, 5000⟩]) := by simp [stepS, pm_5 k h1 h2]
    simp only
    rw [e2]
    simp [takeS, takeOne, dueL, show max (1 : Int) 5000 = 5000 from by decide]
    omega
  have iB : InvS (repB c t) := give_inv iA 3 0
  have nB : (repB c t).now = 700 + t := by rw [eB]
  have iC : InvS (repC c t) := (iB.until_ (by omega)).1
  have nC : (repC c t).now = 5699 + t := by
    unfold repC; rw [untilS_now _ _ iB.nw (by omega), nB]; omega
  obtain ⟨g', h', now', eU⟩ := six_keep (t := (repB c t).now + 4999) (l := comLog c k ++ [⟨700 + t, ⟨4, 0, 9, 5000⟩⟩]) h1 h2 (show (repB c t).now + 4999 < 5700 + t by rw [nB]; omega) 200 (700 + atK (k + 1)) 32700 (700 + t)
  rw [← eB] at eU
  have eC : repC c t = ⟨⟨6, 0, c⟩, dueL g' h' (5700 + t) (-1), 5699 + t, comLog c k ++ [⟨700 + t, ⟨4, 0, 9, 5000⟩⟩]⟩ := by
    have hn : max (untilR ((repB c t).now + 4999) 200 (repB c t)).now ((repB c t).now + 4999) = 5699 + t := by
      have := nC; unfold repC untilS at this; exact this
    unfold repC untilS
    rw [hn, eU]
  have mC : (repC c t).m = ⟨6, 0, c⟩ := by rw [eC]
  have iD : InvS (repD c t) := (iC.until_ (by omega)).1
  have nD : (repD c t).now = 5700 + t := by
    unfold repD; rw [untilS_now _ _ iC.nw (by omega), nC]; omega
  refine ⟨⟨iA, nA, by rw [eA]; rfl, ?_⟩, ⟨nB, iB⟩, ⟨iC, nC, mC⟩, ⟨iD, nD, ?_⟩⟩
  · have : (repA c t).log = comLog c k := by rw [eA]; rfl
    rw [this, cnt_num hat, comLog_num h1 k, hc]
  · have iC' := iC
    rw [eC] at iC'
    obtain ⟨g2, h2', i2, e2, hd, hi⟩ := iC'
    simp only at hd hi
    obtain ⟨rfl, rfl, rfl, rfl⟩ : g' = g2 ∧ h' = h2' ∧ 5700 + t = i2 ∧ -1 = e2 := by
      unfold dueL at hd; simp at hd; exact ⟨hd.1, hd.2.1, hd.2.2.1, hd.2.2.2⟩
    obtain ⟨m', a', b', i', e', l', u1, u2, u3, u4, u5, u6, u7, u8, u9, u10, u11, u12⟩ := until_inv hi (t := 5700 + t) (by omega)
    have eD : repD c t = ⟨m', dueL a' b' i' e', 5700 + t, l'⟩ := by
      unfold repD
      rw [show (repC c t).now + 1 = 5700 + t by rw [nC]; omega, eC, u1]
    have hJ := u7 (5700 + t) ⟨fun h => by simp at h, fun h => by simp at h, fun _ => Int.le_refl _⟩
    have hcf : conf (comLog c k ++ [⟨700 + t, ⟨4, 0, 9, 5000⟩⟩]) = true := by rw [conf_snoc]; simp
    have hcf' := u12 hcf
    have hse := u11 (by simp) c c
    rw [num_snoc, comLog_num h1 k, if_neg (by simp)] at hse
    rw [eD]
    simp only
    rw [cnt_num u2.at_, cnt_num u2.at_, hc, hse]
    have hst : m'.st = 7 := by
      rcases u8 with h | h
      · exfalso
        rcases u2.sh with ⟨q, y1, y2, rfl, _⟩ | ⟨q, y1, y2, rfl, _⟩ | ⟨q, s, j, y1, y2, hj, rfl, _⟩ | ⟨q, y1, y2, rfl, hii, _⟩ | ⟨q, y1, y2, rfl, _⟩
        · simp at h
        · simp at h
        · simp at h
        · have := hJ.2.2 rfl; omega
        · simp at h
      · exact h
    refine ⟨hst, ?_, rfl⟩
    rcases u2.sh with ⟨q, y1, y2, rfl, _⟩ | ⟨q, y1, y2, rfl, _⟩ | ⟨q, s, j, y1, y2, hj, rfl, _⟩ | ⟨q, y1, y2, rfl, _⟩ | ⟨q, y1, y2, rfl, hg⟩
    · simp at hst
    · simp at hst
    · simp at hst
    · simp at hst
    · have hx := hg.2.2.2
      have hle := hg.2.2.1
      have hno : num 5 0 1000 l' ≠ 1 := fun h => by
        have := (hx.1 h).2.1
        rw [hcf'] at this; cases this
      omega

theorem rep_ge {c : Int} (h1 : 300 ≤ c) (h2 : c ≤ 699) : InvS (repA c 32000) ∧ (repA c 32000).now = 32700 ∧ (repA c 32000).m = ⟨7, 0, c⟩ ∧ cnt 5 32699 0 1000 (repA c 32000).log = 0 ∧ cnt 5 32700 0 1000 (repA c 32000).log = 1 ∧ cnt 1 32700 c c (repA c 32000).log = 11 := by
  have eU : untilR (700 + 32000) 200 (comS c 0) = ⟨⟨7, 0, c⟩, dueL 36200 (-1) (-1) (-1), 32700, comLog c 10 ++ [⟨32700, ⟨5, 0, 0, 0⟩⟩] ++ [⟨32700, ⟨7, 0, 0, 0⟩⟩]⟩ := by
    rw [reach_com h1 h2 10 (by omega) (by simp only [atK]; omega)]
    show untilR 32700 (188 + 1 + 1) (comS c 10) = _
    have hs : scan (comS c 10).due 32700 14 = 8 := by
      show scan (dueL 36200 32700 (-1) (-1)) 32700 14 = 8
      rw [scan_gh, if_neg (by omega), if_pos (by omega)]
    rw [untilR, hs, if_neg (by omega)]
    have e1 : fire (comS c 10) (8 : Int).toNat = ⟨⟨7, 0, c⟩, dueL 36200 (-1) (-1) (-1), 32700, comLog c 10 ++ [⟨32700, ⟨5, 0, 0, 0⟩⟩] ++ [⟨32700, ⟨7, 0, 0, 0⟩⟩]⟩ := by
      show giveS ⟨⟨5, wK 10, c⟩, dueL 36200 (-1) (-1) (-1), 32700, comLog c 10⟩ ⟨5, 0, ((8 : Nat) : Int)⟩ = _
      unfold giveS
      have e2 : stepS ⟨5, wK 10, c⟩ ⟨5, 0, ((8 : Nat) : Int)⟩ = (⟨7, 0, c⟩, [⟨5, 0, 0, 0⟩, ⟨7, 0, 0, 0⟩]) := by simp [stepS, pm_5 10 h1 h2, firedS]
      simp only
      rw [e2]
      exact take_2 _ _ _ _ _ _ _ _ _ _ (by simp) (by simp)
    rw [e1]
    have hs2 : scan (dueL 36200 (-1) (-1) (-1)) 32700 14 = -1 := by
      rw [scan_gh, if_neg (by omega), if_neg (by omega)]
    rw [untilR]
    simp only [hs2]
    rfl
  have eA : repA c 32000 = ⟨⟨7, 0, c⟩, dueL 36200 (-1) (-1) (-1), 32700, comLog c 10 ++ [⟨32700, ⟨5, 0, 0, 0⟩⟩] ++ [⟨32700, ⟨7, 0, 0, 0⟩⟩]⟩ := by
    unfold repA untilS
    rw [rej0_is h1 h2, eU]
    rfl
  have iA : InvS (repA c 32000) := (rej0_inv.until_ (by rw [rej0_now]; omega)).1
  refine ⟨iA, by rw [eA], by rw [eA], ?_, ?_, ?_⟩
  · rw [eA]; simp only; rw [cnt_snoc, cnt_snoc, comLog_5]; simp [hit]
  · rw [eA]; simp only; rw [cnt_snoc, cnt_snoc, comLog_5]; simp [hit]
  · rw [eA]; simp only; rw [cnt_snoc, cnt_snoc, cnt_num (at_mono (comLog_at c 10 (by omega)) (by simp only [atK]; omega)), comLog_num h1 10]; simp [hit]
end Go.Proofs.Ytgjhnaionalbpaa
