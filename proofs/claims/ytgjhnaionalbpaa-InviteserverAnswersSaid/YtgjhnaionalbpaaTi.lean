/- What InviteserverAnswers needs of the simulated server. -/
import Derived.Test.YtgjhnaionalbpaaTd
namespace Go.Proofs.Ytgjhnaionalbpaa

theorem takeS_logs (σ : Sim) (m : Mach) (l : List Out) : (takeS σ m l).log = σ.log ++ l.map (fun o => ⟨σ.now, o⟩) := by
  have : ∀ (l : List Out) (τ : Sim), (l.foldl takeOne τ).log = τ.log ++ l.map (fun o => ⟨τ.now, o⟩) := by
    intro l
    induction l with
    | nil => intro τ; simp
    | cons x l ih => intro τ; rw [List.foldl_cons, ih]; simp [takeOne]
  exact this l _
theorem takeS_m (σ : Sim) (m : Mach) (l : List Out) : (takeS σ m l).m = m := by
  have : ∀ (l : List Out) (τ : Sim), (l.foldl takeOne τ).m = τ.m := by
    intro l
    induction l with
    | nil => intro τ; rfl
    | cons x l ih => intro τ; rw [List.foldl_cons, ih]; rfl
  exact this l _
theorem giveS_m (σ : Sim) (i : Inp) : (giveS σ i).m = (stepS σ.m i).1 := takeS_m _ _ _
theorem giveS_logs (σ : Sim) (i : Inp) : (giveS σ i).log = σ.log ++ (stepS σ.m i).2.map (fun o => ⟨σ.now, o⟩) := takeS_logs _ _ _

theorem ans_1 {σ : Sim} (h : InvS σ) (c : Int) : (giveS σ ⟨1, c, 0⟩).m.code = σ.m.code ∧ ((σ.m.st = 4 ∨ σ.m.st = 6 ∨ σ.m.st = 7) → (giveS σ ⟨1, c, 0⟩).log = σ.log) ∧ (¬ (σ.m.st = 4 ∨ σ.m.st = 6 ∨ σ.m.st = 7) → (giveS σ ⟨1, c, 0⟩).log = σ.log ++ [⟨σ.now, ⟨1, σ.m.code, 0, 0⟩⟩]) := by
  have hm := h.may
  rw [giveS_m, giveS_logs]
  obtain ⟨a, b, d, e, hd, hi⟩ := h
  obtain ⟨m, due, now, l⟩ := σ
  simp only at hm hi ⊢
  rcases hi.sh with ⟨q, q1, q2, rfl, _⟩ | ⟨q, q1, q2, rfl, _⟩ | ⟨q, s, j, q1, q2, hj, rfl, _⟩ | ⟨q, q1, q2, rfl, _⟩ | ⟨q, q1, q2, rfl, _⟩
  · simp [stepS, pm_3 q1 q2]
  · simp [stepS, pm_4 q1 q2]
  · simp [stepS, pm_5 j q1 q2]
  · simp [stepS, pm_6 q1 q2]
  · simp [stepS, pm_7 q1 q2]
theorem ans_3 {σ : Sim} (h : InvS σ) (c : Int) : (giveS σ ⟨3, c, 0⟩).m.code = σ.m.code := by
  rw [giveS_m]
  obtain ⟨a, b, d, e, hd, hi⟩ := h
  obtain ⟨m, due, now, l⟩ := σ
  simp only at hi ⊢
  rcases hi.sh with ⟨q, q1, q2, rfl, _⟩ | ⟨q, q1, q2, rfl, _⟩ | ⟨q, s, j, q1, q2, hj, rfl, _⟩ | ⟨q, q1, q2, rfl, _⟩ | ⟨q, q1, q2, rfl, _⟩
  · simp [stepS, pm_3 q1 q2]
  · simp [stepS, pm_4 q1 q2]
  · simp [stepS, pm_5 j q1 q2]
  · simp [stepS, pm_6 q1 q2]
  · simp [stepS, pm_7 q1 q2]
theorem ans_4 {σ : Sim} (h : InvS σ) (c : Int) : ((giveS σ ⟨4, c, 0⟩).log.length = σ.log.length ∧ (giveS σ ⟨4, c, 0⟩).m.code = σ.m.code) ∨ (σ.log.length < (giveS σ ⟨4, c, 0⟩).log.length ∧ (giveS σ ⟨4, c, 0⟩).m.code = c) := by
  rw [giveS_m, giveS_logs, List.length_append, List.length_map]
  obtain ⟨a, b, d, e, hd, hi⟩ := h
  obtain ⟨m, due, now, l⟩ := σ
  simp only at hi ⊢
  rcases hi.sh with ⟨q, q1, q2, rfl, _⟩ | ⟨q, q1, q2, rfl, _⟩ | ⟨q, s, j, q1, q2, hj, rfl, _⟩ | ⟨q, q1, q2, rfl, _⟩ | ⟨q, q1, q2, rfl, _⟩
  · have e1 : stepS ⟨3, 0, q⟩ ⟨4, c, 0⟩ = answS ⟨3, 0, q⟩ c := by simp [stepS, pm_3 q1 q2]
    rw [e1]
    unfold answS
    repeat' split
    · exact .inr ⟨by simp, rfl⟩
    · exact .inr ⟨by simp, rfl⟩
    · exact .inr ⟨by simp, rfl⟩
    · exact .inl ⟨by simp, rfl⟩
  · by_cases hc : 200 ≤ c ∧ c ≤ 299
    · have e1 : stepS ⟨4, 0, q⟩ ⟨4, c, 0⟩ = (⟨4, 0, c⟩, [⟨1, c, 0, 0⟩]) := by simp [stepS, pm_4 q1 q2, hc]
      rw [e1]; exact .inr ⟨by simp, rfl⟩
    · have e1 : stepS ⟨4, 0, q⟩ ⟨4, c, 0⟩ = (⟨4, 0, q⟩, []) := by simp [stepS, pm_4 q1 q2, hc]
      rw [e1]; exact .inl ⟨by simp, rfl⟩
  · have e1 : stepS ⟨5, wK j, q⟩ ⟨4, c, 0⟩ = (⟨5, wK j, q⟩, []) := by simp [stepS, pm_5 j q1 q2]
    rw [e1]; exact .inl ⟨by simp, rfl⟩
  · have e1 : stepS ⟨6, 0, q⟩ ⟨4, c, 0⟩ = (⟨6, 0, q⟩, []) := by simp [stepS, pm_6 q1 q2]
    rw [e1]; exact .inl ⟨by simp, rfl⟩
  · have e1 : stepS ⟨7, 0, q⟩ ⟨4, c, 0⟩ = (⟨7, 0, q⟩, []) := by simp [stepS, pm_7 q1 q2]
    rw [e1]; exact .inl ⟨by simp, rfl⟩
end Go.Proofs.Ytgjhnaionalbpaa
