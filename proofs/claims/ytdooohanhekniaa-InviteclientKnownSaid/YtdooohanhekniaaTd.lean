/- What the laws on whole plays need of the simulated client. -/
import Derived.Test.YtdooohanhekniaaTc
namespace Go.Proofs.Ytdooohanhekniaa

theorem InvS.until_ {σ : Sim} (h : InvS σ) {t : Int} (ht : σ.now ≤ t) : InvS (untilS σ t) := by
  obtain ⟨m, due, now, l⟩ := σ
  obtain ⟨a, b, d, e, hd, hi⟩ := h
  simp only at hd hi ht
  subst hd
  obtain ⟨m', a', b', d', e', l', h1, h2, _⟩ := until_inv hi ht
  rw [h1]
  exact ⟨a', b', d', e', rfl, h2⟩
theorem InvS.nw {σ : Sim} (h : InvS σ) : 0 ≤ σ.now := by
  obtain ⟨a, b, d, e, hd, hi⟩ := h
  exact hi.nw

theorem play_fold : ∀ (l : List Ev) (σ : Sim), InvS σ → (∀ e ∈ l, 0 ≤ e.wait ∧ e.wait ≤ 65535) → InvS (l.foldl playOne σ) ∧ (l.foldl playOne σ).now ≤ σ.now + 65535 * l.length ∧ (l.foldl playOne σ).log.length ≤ σ.log.length + 603 * l.length
  | [], σ, h, _ => ⟨h, by simp, by simp⟩
  | e :: l, σ, h, hl => by
    have he := hl e (by simp)
    have hu := h.until_ (t := σ.now + e.wait) (by omega)
    have hn := untilS_now σ (σ.now + e.wait) h.nw (by omega)
    have hg := untilS_log σ (σ.now + e.wait)
    have hgg := giveS_log (untilS σ (σ.now + e.wait)) ⟨e.kind, e.code, 0⟩
    have hgn := giveS_now (untilS σ (σ.now + e.wait)) ⟨e.kind, e.code, 0⟩
    have ih := play_fold l (playOne σ e) (give_inv hu _ _) (fun x hx => hl x (by simp [hx]))
    rw [List.foldl_cons, List.length_cons]
    refine ⟨ih.1, ?_, ?_⟩
    · have h1 : (playOne σ e).now = σ.now + e.wait := by unfold playOne; rw [hgn, hn]
      have := ih.2.1
      rw [h1] at this
      push_cast
      omega
    · have := ih.2.2
      have h2 : (playOne σ e).log.length ≤ σ.log.length + 603 := by unfold playOne; omega
      omega
theorem play_inv (l : List Ev) (hl : ∀ e ∈ l, 0 ≤ e.wait ∧ e.wait ≤ 65535) : InvS (playS l) ∧ (playS l).now ≤ 2621400 ∧ (playS l).log.length ≤ 25000 := by
  have h := play_fold (l.take 40) startS start_inv (fun e he => hl e (List.mem_of_mem_take he))
  have h1 : (l.take 40).length ≤ 40 := by rw [List.length_take]; omega
  have h2 := startS_now
  have h3 := startS_log
  refine ⟨h.1, ?_, ?_⟩
  · have := h.2.1; unfold playS; omega
  · have := h.2.2; unfold playS; omega

theorem Inv.closed {m : Mach} {a b d e now : Int} {l : List Ent} {due : List Int} (h : Inv m a b d e now l) : Closed ⟨m, due, now, l⟩ := by
  unfold Closed
  simp only
  rw [cnt_num h.at_]
  rcases h.sh with ⟨j, hj, rfl, _, _, _, _, _, hg⟩ | ⟨rfl, hg⟩ | ⟨q, q1, q2, rfl, h4, hg⟩ | ⟨q, q1, q2, rfl, h5, hg⟩ | ⟨q, hq, rfl, hg⟩
  · exact .inl ⟨by rw [hg.2.2.2.2.1]; rfl, by simp⟩
  · exact .inl ⟨by rw [hg.2.2.2.1]; rfl, by simp⟩
  · exact .inl ⟨by rw [hg.2.2]; rfl, by simp⟩
  · exact .inl ⟨by rw [hg.2.2.2.1]; rfl, by simp⟩
  · exact .inr ⟨by rw [hg.1]; rfl, rfl, hg.2.1⟩
theorem InvS.closed {σ : Sim} (h : InvS σ) : Closed σ := by
  obtain ⟨m, due, now, l⟩ := σ
  obtain ⟨a, b, d, e, hd, hi⟩ := h
  exact hi.closed
theorem InvS.may {σ : Sim} (h : InvS σ) : mayB σ.m.st σ.m.wait σ.m.code = true := by
  obtain ⟨a, b, d, e, hd, hi⟩ := h
  exact hi.may

/-- Ends. -/
theorem ends_fact {σ : Sim} (h : InvS σ) : InvS (untilS σ (σ.now + 32000)) ∧ (σ.m.st = 3 → (untilS σ (σ.now + 32000)).m.st = 3) ∧ (σ.m.st ≠ 3 → (untilS σ (σ.now + 32000)).m.st = 7) := by
  refine ⟨h.until_ (by omega), ?_⟩
  obtain ⟨m, due, now, l⟩ := σ
  obtain ⟨a, b, d, e, hd, hi⟩ := h
  simp only at hd hi ⊢
  subst hd
  obtain ⟨m', a', b', d', e', l', h1, h2, h3, h4, h5, h6, h7, h8⟩ := until_inv hi (t := now + 32000) (by omega)
  rw [h1]
  simp only
  have hJ := h7 (now + 32000) ⟨fun _ => by have := hi.nw; omega, fun _ => hi.ue, fun _ => hi.ud⟩
  refine ⟨fun h => h8.2 h, fun h => ?_⟩
  have hn3 : m'.st ≠ 3 := fun e => h (h8.1 e)
  have nw := hi.nw
  rcases h2.sh with ⟨j, hj, rfl, _, hb, _, _, _, hg⟩ | ⟨rfl, hg⟩ | ⟨q, q1, q2, rfl, he, hg⟩ | ⟨q, q1, q2, rfl, hdd, hg⟩ | ⟨q, hq, rfl, hg⟩
  · have := hJ.1 rfl; omega
  · exact absurd rfl hn3
  · have := hJ.2.1 rfl; omega
  · have := hJ.2.2 rfl; omega
  · rfl

/-- User. -/
theorem user_fact {σ : Sim} (h : InvS σ) : cnt 3 σ.now 300 699 σ.log ≤ 1 ∧ ¬ (0 < cnt 3 σ.now 300 699 σ.log ∧ 0 < cnt 3 σ.now 200 299 σ.log) ∧ ¬ (0 < cnt 5 σ.now 0 1000 σ.log ∧ 0 < cnt 3 σ.now 0 1000 σ.log) ∧ (0 < cnt 3 σ.now 300 699 σ.log → 1 ≤ cnt 2 σ.now 300 699 σ.log) ∧ Ord σ.log := by
  obtain ⟨m, due, now, l⟩ := σ
  obtain ⟨a, b, d, e, hd, hi⟩ := h
  simp only at hd hi ⊢
  rw [cnt_num hi.at_, cnt_num hi.at_, cnt_num hi.at_, cnt_num hi.at_, cnt_num hi.at_]
  rcases hi.sh with ⟨j, hj, rfl, _, _, _, _, _, hg⟩ | ⟨rfl, hg⟩ | ⟨q, q1, q2, rfl, h4, hg⟩ | ⟨q, q1, q2, rfl, h5, hg⟩ | ⟨q, hq, rfl, hg⟩
  · obtain ⟨x1, x2, x3, x4, x5, x6⟩ := hg
    exact ⟨by omega, by omega, by omega, by omega, hi.ord⟩
  · obtain ⟨x2, x3, x4, x5, x6⟩ := hg
    exact ⟨by omega, by omega, by omega, by omega, hi.ord⟩
  · obtain ⟨x2, x3, x4⟩ := hg
    exact ⟨by omega, by omega, by omega, by omega, hi.ord⟩
  · obtain ⟨x1, x2, x3, x4, x5⟩ := hg
    exact ⟨by omega, by omega, by omega, by omega, hi.ord⟩
  · obtain ⟨x1, x2, x3⟩ := hg
    exact ⟨by omega, by omega, by omega, by omega, hi.ord⟩
end Go.Proofs.Ytdooohanhekniaa
