/- The simulated client to which nothing arrives. -/
import Derived.Test.YtdooohanhekniaaTd
namespace Go.Proofs.Ytdooohanhekniaa

def callLog : Nat → List Ent
  | 0 => [⟨0, ⟨1, 0, 0, 0⟩⟩, ⟨0, ⟨4, 0, 1, 500⟩⟩, ⟨0, ⟨4, 0, 2, 32000⟩⟩]
  | k + 1 => callLog k ++ [⟨atK (k + 1), ⟨1, 0, 0, 0⟩⟩] ++ [⟨atK (k + 1), ⟨4, 0, 1, wK (k + 1)⟩⟩]
def calS (k : Nat) : Sim := ⟨⟨1, wK k, 0⟩, dueL (atK (k + 1)) 32000 (-1) (-1), atK k, callLog k⟩
def endLog : List Ent := callLog 6 ++ [⟨32000, ⟨5, 0, 0, 0⟩⟩] ++ [⟨32000, ⟨7, 0, 0, 0⟩⟩]
def endS : Sim := ⟨⟨7, 0, 0⟩, dueL 63500 (-1) (-1) (-1), 32000, endLog⟩
def endS2 : Sim := ⟨⟨7, 0, 0⟩, dueL (-1) (-1) (-1) (-1), 63500, endLog⟩

theorem scan_ab (a b t : Int) : scan (dueL a b (-1) (-1)) t 14 = if 0 ≤ a ∧ a ≤ t then (if 0 ≤ b ∧ b ≤ t ∧ b < a then 2 else 1) else if 0 ≤ b ∧ b ≤ t then 2 else -1 := by
  have e2 : scan (dueL a b (-1) (-1)) t 2 = if 0 ≤ a ∧ a ≤ t then 1 else -1 := by
    simp [scan, dueL]
  have e3 : scan (dueL a b (-1) (-1)) t 3 = if 0 ≤ a ∧ a ≤ t then (if 0 ≤ b ∧ b ≤ t ∧ b < a then 2 else 1) else if 0 ≤ b ∧ b ≤ t then 2 else -1 := by
    rw [scan, e2]
    by_cases h : 0 ≤ a ∧ a ≤ t
    · simp [h, dueL]
    · simp [h, dueL]
  have step : ∀ i, 3 ≤ i → i < 14 → scan (dueL a b (-1) (-1)) t (i + 1) = scan (dueL a b (-1) (-1)) t i := by
    intro i h1 h2
    have hd : (dueL a b (-1) (-1)).getD i 0 = -1 := by
      match i, h1, h2 with
      | 3, _, _ | 4, _, _ | 5, _, _ | 6, _, _ | 7, _, _ | 8, _, _ | 9, _, _ | 10, _, _ | 11, _, _ | 12, _, _ | 13, _, _ => rfl
    rw [scan, hd, if_neg (by omega)]
  rw [step 13 (by omega) (by omega), step 12 (by omega) (by omega), step 11 (by omega) (by omega), step 10 (by omega) (by omega), step 9 (by omega) (by omega), step 8 (by omega) (by omega), step 7 (by omega) (by omega), step 6 (by omega) (by omega), step 5 (by omega) (by omega), step 4 (by omega) (by omega), step 3 (by omega) (by omega), e3]

theorem fire_cal {k : Nat} (hk : k < 6) : fire (calS k) 1 = calS (k + 1) := by
  match k, hk with
  | 0, _ | 1, _ | 2, _ | 3, _ | 4, _ | 5, _ => rfl
theorem go_cal {t : Int} {k n : Nat} (hk : k < 6) (h : atK (k + 1) ≤ t) : untilR t (n + 1) (calS k) = untilR t n (calS (k + 1)) := by
  obtain ⟨h1, h2⟩ := at_small hk
  have hs : scan (calS k).due t 14 = 1 := by
    show scan (dueL (atK (k + 1)) 32000 (-1) (-1)) t 14 = 1
    rw [scan_ab, if_pos ⟨h2, h⟩, if_neg (by omega)]
  rw [untilR, hs, if_neg (by omega)]
  show untilR t n (fire (calS k) 1) = _
  rw [fire_cal hk]
theorem stop_cal {t : Int} {k n : Nat} (h : t < atK (k + 1)) (h' : t < 32000) : untilR t (n + 1) (calS k) = calS k := by
  have hs : scan (calS k).due t 14 = -1 := by
    show scan (dueL (atK (k + 1)) 32000 (-1) (-1)) t 14 = -1
    rw [scan_ab, if_neg (by omega), if_neg (by omega)]
  rw [untilR, hs, if_pos (by omega)]
theorem end_cal {t : Int} {n : Nat} (h : 32000 ≤ t) : untilR t (n + 1) (calS 6) = untilR t n endS := by
  have hs : scan (calS 6).due t 14 = 2 := by
    show scan (dueL 63500 32000 (-1) (-1)) t 14 = 2
    rw [scan_ab]
    by_cases h6 : (63500 : Int) ≤ t
    · rw [if_pos ⟨by omega, h6⟩, if_pos (by omega)]
    · rw [if_neg (by omega), if_pos (by omega)]
  rw [untilR, hs, if_neg (by omega)]
  rfl
theorem end_end {t : Int} (n : Nat) : untilR t (n + 2) endS = endS ∨ untilR t (n + 2) endS = endS2 := by
  by_cases h6 : (63500 : Int) ≤ t
  · right
    have hs : scan endS.due t 14 = 1 := by
      show scan (dueL 63500 (-1) (-1) (-1)) t 14 = 1
      rw [scan_ab, if_pos ⟨by omega, h6⟩, if_neg (by omega)]
    rw [untilR, hs, if_neg (by omega)]
    show untilR t (n + 1) endS2 = endS2
    have hs2 : scan endS2.due t 14 = -1 := by
      show scan (dueL (-1) (-1) (-1) (-1)) t 14 = -1
      rw [scan_ab, if_neg (by omega), if_neg (by omega)]
    rw [untilR, hs2, if_pos (by omega)]
  · left
    have hs : scan endS.due t 14 = -1 := by
      show scan (dueL 63500 (-1) (-1) (-1)) t 14 = -1
      rw [scan_ab, if_neg (by omega), if_neg (by omega)]
    rw [untilR, hs, if_pos (by omega)]

theorem atK_step {k : Nat} (h : k < 6) : atK k ≤ atK (k + 1) := by
  match k, h with
  | 0, _ | 1, _ | 2, _ | 3, _ | 4, _ | 5, _ => decide
theorem reach {t : Int} : ∀ k : Nat, k ≤ 6 → atK k ≤ t → untilR t 200 startS = untilR t (200 - k) (calS k)
  | 0, _, _ => rfl
  | k + 1, hk, h => by
    have := atK_step (k := k) (by omega)
    rw [reach k (by omega) (by omega), show 200 - k = (200 - (k + 1)) + 1 by omega, go_cal (by omega) h]

theorem callLog_at : ∀ k, k ≤ 6 → ∀ x ∈ callLog k, x.at_ ≤ atK k := by decide
theorem callLog_num : ∀ k, k ≤ 6 → num 1 0 0 (callLog k) = k + 1 ∧ num 3 0 1000 (callLog k) = 0 ∧ num 5 0 0 (callLog k) = 0 := by decide

/-- Before 32000. -/
theorem alone_lt {t : Int} (h0 : 0 ≤ t) (h : t < 32000) : cnt 1 t 0 0 (untilS startS t).log = copiesS t ∧ cnt 3 t 0 1000 (untilS startS t).log = 0 ∧ cnt 5 t 0 0 (untilS startS t).log = 0 ∧ (untilS startS t).m.st = 1 := by
  obtain ⟨k, hk, h1, h2⟩ : ∃ k : Nat, k ≤ 6 ∧ atK k ≤ t ∧ t < atK (k + 1) := by
    by_cases c6 : 31500 ≤ t
    · exact ⟨6, by omega, c6, by simp only [atK]; omega⟩
    by_cases c5 : 15500 ≤ t
    · exact ⟨5, by omega, c5, by simp only [atK]; omega⟩
    by_cases c4 : 7500 ≤ t
    · exact ⟨4, by omega, c4, by simp only [atK]; omega⟩
    by_cases c3 : 3500 ≤ t
    · exact ⟨3, by omega, c3, by simp only [atK]; omega⟩
    by_cases c2 : 1500 ≤ t
    · exact ⟨2, by omega, c2, by simp only [atK]; omega⟩
    by_cases c1 : 500 ≤ t
    · exact ⟨1, by omega, c1, by simp only [atK]; omega⟩
    · exact ⟨0, by omega, h0, by simp only [atK]; omega⟩
  have e : untilR t 200 startS = calS k := by
    rw [reach k hk h1, show 200 - k = (199 - k) + 1 by omega, stop_cal h2 h]
  have hlog : (untilS startS t).log = callLog k := by unfold untilS; rw [e]; rfl
  have hm : (untilS startS t).m.st = 1 := by unfold untilS; rw [e]; rfl
  have hat : ∀ x ∈ callLog k, x.at_ ≤ t := fun x hx => Int.le_trans (callLog_at k hk x hx) h1
  obtain ⟨n1, n2, n3⟩ := callLog_num k hk
  have hmon : ∀ j, j ≤ k → atK j ≤ t := by
    intro j hj
    have : ∀ d, d ≤ k → atK (k - d) ≤ t := by
      intro d
      induction d with
      | zero => intro _; exact h1
      | succ d ih =>
        intro hd
        have h3 := ih (by omega)
        have h4 := atK_step (k := k - (d + 1)) (by omega)
        rw [show k - (d + 1) + 1 = k - d by omega] at h4
        omega
    have h5 := this (k - j) (by omega)
    rwa [show k - (k - j) = j by omega] at h5
  have hc : copiesS t = ((k + 1 : Nat) : Int) := copies_is (by omega) (fun j hj => hmon j (by omega)) (fun _ => h2)
  rw [hlog, cnt_num hat, cnt_num hat, cnt_num hat, n1, n2, n3, hc]
  exact ⟨rfl, rfl, rfl, hm⟩

theorem endLog_at : ∀ x ∈ endLog, x.at_ ≤ 32000 := by decide
/-- From 32000 on. -/
theorem alone_ge {t : Int} (h : 32000 ≤ t) : cnt 1 t 0 0 (untilS startS t).log = copiesS t ∧ cnt 3 t 0 1000 (untilS startS t).log = 0 ∧ (untilS startS t).m = ⟨7, 0, 0⟩ ∧ cnt 5 31999 0 0 (untilS startS t).log = 0 ∧ cnt 5 32000 0 0 (untilS startS t).log = 1 ∧ cnt 7 32000 0 0 (untilS startS t).log = 1 := by
  have e : untilR t 200 startS = endS ∨ untilR t 200 startS = endS2 := by
    rw [reach 6 (by omega) (by simp only [atK]; omega)]
    show untilR t (193 + 1) (calS 6) = _ ∨ untilR t (193 + 1) (calS 6) = _
    rw [end_cal h]
    exact end_end 191
  have hlog : (untilS startS t).log = endLog := by
    unfold untilS
    rcases e with e | e <;> (rw [e]; rfl)
  have hm : (untilS startS t).m = ⟨7, 0, 0⟩ := by
    unfold untilS
    rcases e with e | e <;> (rw [e]; rfl)
  have hat : ∀ x ∈ endLog, x.at_ ≤ t := fun x hx => Int.le_trans (endLog_at x hx) h
  have hc : copiesS t = ((7 : Nat) : Int) := copies_is (by omega) (fun j hj => by
    match j, hj with
    | 0, _ | 1, _ | 2, _ | 3, _ | 4, _ | 5, _ | 6, _ => simp only [atK]; omega) (fun h => absurd h (by omega))
  rw [hlog, cnt_num hat, cnt_num hat, hc, hm]
  refine ⟨?_, ?_, rfl, ?_, ?_, ?_⟩ <;> decide
end Go.Proofs.Ytdooohanhekniaa
