/- What the laws on whole plays need of the simulated server. -/
import Derived.Test.YtgjhnaionalbpaaTc
namespace Go.Proofs.Ytgjhnaionalbpaa

theorem InvS.until_ {σ : Sim} (h : InvS σ) {t : Int} (ht : σ.now ≤ t) : InvS (untilS σ t) ∧ (untilS σ t).m.code = σ.m.code := by
  obtain ⟨m, due, now, l⟩ := σ
  obtain ⟨a, b, d, e, hd, hi⟩ := h
  simp only at hd hi ht
  subst hd
  obtain ⟨m', a', b', d', e', l', h1, h2, _, _, _, _, _, _, hc, _⟩ := until_inv hi ht
  rw [h1]
  exact ⟨⟨a', b', d', e', rfl, h2⟩, hc⟩
theorem InvS.nw {σ : Sim} (h : InvS σ) : 0 ≤ σ.now := by
  obtain ⟨a, b, d, e, hd, hi⟩ := h
  exact hi.nw
theorem InvS.may {σ : Sim} (h : InvS σ) : mayB σ.m.st σ.m.wait σ.m.code = true := by
  obtain ⟨a, b, d, e, hd, hi⟩ := h
  exact hi.may
theorem InvS.user {σ : Sim} (h : InvS σ) : cnt 3 σ.now 0 1000 σ.log = 1 := by
  obtain ⟨a, b, d, e, hd, hi⟩ := h
  rw [cnt_num hi.at_, hi.us]; rfl

theorem play_fold : ∀ (l : List Ev) (σ : Sim), InvS σ → (∀ e ∈ l, 0 ≤ e.wait ∧ e.wait ≤ 65535) → InvS (l.foldl playOne σ) ∧ (l.foldl playOne σ).now ≤ σ.now + 65535 * l.length ∧ (l.foldl playOne σ).log.length ≤ σ.log.length + 603 * l.length
  | [], σ, h, _ => ⟨h, by simp, by simp⟩
  | e :: l, σ, h, hl => by
    have he := hl e (by simp)
    have hu := (h.until_ (t := σ.now + e.wait) (by omega)).1
    have hn := untilS_now σ (σ.now + e.wait) h.nw (by omega)
    have hg := untilS_log σ (σ.now + e.wait)
    have hgg := giveS_log (untilS σ (σ.now + e.wait)) ⟨e.kind, e.code, 0⟩
    have hgn := giveS_now (untilS σ (σ.now + e.wait)) ⟨e.kind, e.code, 0⟩
    have ih := play_fold l (playOne σ e) (give_inv hu _ _) (fun x hx => hl x (by simp [hx]))
    rw [List.foldl_cons, List.length_cons]
    refine ⟨ih.1, ?_, ?_⟩
    · have h1 : (playOne σ e).now = σ.now + e.wait := by unfold playOne; rw [hgn, hn]
      have := ih.2.1
      rw [h1] at this
      push_cast
      omega
    · have := ih.2.2
      have h2 : (playOne σ e).log.length ≤ σ.log.length + 603 := by unfold playOne; omega
      omega
theorem play_inv (l : List Ev) (hl : ∀ e ∈ l, 0 ≤ e.wait ∧ e.wait ≤ 65535) : InvS (playS l) ∧ (playS l).now ≤ 2621400 ∧ (playS l).log.length ≤ 25000 := by
  have h := play_fold (l.take 40) startS start_inv (fun e he => hl e (List.mem_of_mem_take he))
  have h1 : (l.take 40).length ≤ 40 := by rw [List.length_take]; omega
  have h2 := startS_now
  have h3 := startS_log
  refine ⟨h.1, ?_, ?_⟩
  · have := h.2.1; unfold playS; omega
  · have := h.2.2; unfold playS; omega

theorem Inv.closed {m : Mach} {g h i e now : Int} {l : List Ent} {due : List Int} (hi : Inv m g h i e now l) : Closed ⟨m, due, now, l⟩ := by
  unfold Closed
  simp only
  rw [cnt_num hi.at_]
  rcases hi.sh with ⟨q, q1, q2, rfl, _, _, _, _, hg⟩ | ⟨q, q1, q2, rfl, _, _, _, _, hg⟩ | ⟨q, s, j, q1, q2, hj, rfl, _, _, _, _, _, _, _, hg⟩ | ⟨q, q1, q2, rfl, _, _, hg⟩ | ⟨q, q1, q2, rfl, hg⟩
  · exact .inl ⟨by rw [hg.2.2.2.2.2]; rfl, by simp⟩
  · exact .inl ⟨by rw [hg.2.2.2.2]; rfl, by simp⟩
  · exact .inl ⟨by rw [hg.2.2.2.2]; rfl, by simp⟩
  · exact .inl ⟨by rw [hg.2.2.2.2]; rfl, by simp⟩
  · exact .inr ⟨by rw [hg.1]; rfl, rfl, hg.2.1⟩
theorem InvS.closed {σ : Sim} (h : InvS σ) : Closed σ := by
  obtain ⟨m, due, now, l⟩ := σ
  obtain ⟨a, b, d, e, hd, hi⟩ := h
  exact hi.closed

/-- Ends. -/
theorem ends_fact {σ : Sim} (h : InvS σ) : InvS (untilS σ (σ.now + 40000)) ∧
    (((untilS σ (σ.now + 40000)).m.st = 3 ∧ cnt 1 (untilS σ (σ.now + 40000)).now 200 699 (untilS σ (σ.now + 40000)).log = 0) ∨
     ((untilS σ (σ.now + 40000)).m.st = 7 ∧ cnt 5 (untilS σ (σ.now + 40000)).now 0 1000 (untilS σ (σ.now + 40000)).log ≤ 1 ∧
      (cnt 5 (untilS σ (σ.now + 40000)).now 0 1000 (untilS σ (σ.now + 40000)).log = 1 ↔ (1 ≤ cnt 1 (untilS σ (σ.now + 40000)).now 300 699 (untilS σ (σ.now + 40000)).log ∧ conf (untilS σ (σ.now + 40000)).log = false ∧ cnt 6 (untilS σ (σ.now + 40000)).now 0 1000 (untilS σ (σ.now + 40000)).log = 0)))) := by
  refine ⟨(h.until_ (by omega)).1, ?_⟩
  obtain ⟨m, due, now, l⟩ := σ
  obtain ⟨g, hh, i, e, hd, hi⟩ := h
  simp only at hd hi ⊢
  subst hd
  obtain ⟨m', g', h', i', e', l', h1, h2, h3, h4, h5, h6, h7, h8, _⟩ := until_inv hi (t := now + 40000) (by omega)
  rw [h1]
  simp only
  have nw := hi.nw
  have hJ := h7 (now + 40000) ⟨fun _ => by have := hi.ue; omega, fun _ => by have := hi.uh; omega, fun _ => by have := hi.ui; omega⟩
  rw [cnt_num h2.at_, cnt_num h2.at_, cnt_num h2.at_, cnt_num h2.at_]
  rcases h2.sh with ⟨q, q1, q2, rfl, _, _, _, _, hg⟩ | ⟨q, q1, q2, rfl, _, _, _, he, hg⟩ | ⟨q, s, j, q1, q2, hj, rfl, _, _, _, _, _, _, _, hg⟩ | ⟨q, q1, q2, rfl, hii, _, hg⟩ | ⟨q, q1, q2, rfl, hg⟩
  · exact .inl ⟨rfl, by rw [hg.1]; rfl⟩
  · exfalso; have := hJ.1 rfl; omega
  · exfalso; have := hJ.2.1 rfl; omega
  · exfalso; have := hJ.2.2 rfl; omega
  · refine .inr ⟨rfl, by have := hg.2.2.1; omega, ?_⟩
    have hx := hg.2.2.2
    constructor
    · intro h
      have h' := hx.1 (by omega)
      exact ⟨by omega, h'.2.1, by omega⟩
    · intro h
      have h' := hx.2 ⟨by omega, h.2.1, by omega⟩
      omega
end Go.Proofs.Ytgjhnaionalbpaa
