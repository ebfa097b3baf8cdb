/- The plain laws of the simulated server: an invariant of the machine, its timers and its log. -/
import Derived.Test.YtgjhnaionalbpaaSg
import Derived.Test.YtgjhnaionalbpaaS
namespace Go.Proofs.Ytgjhnaionalbpaa

/-! ### Counting in the log -/
def num (k a b : Int) (l : List Ent) : Nat := (l.filter fun x => x.out.kind == k && decide (a ≤ x.out.code) && decide (x.out.code ≤ b)).length
theorem num_snoc (k a b : Int) (l : List Ent) (x : Ent) : num k a b (l ++ [x]) = num k a b l + if x.out.kind = k ∧ a ≤ x.out.code ∧ x.out.code ≤ b then 1 else 0 := by
  unfold num; rw [List.filter_append]
  by_cases h : x.out.kind = k ∧ a ≤ x.out.code ∧ x.out.code ≤ b
  · simp [h]
  · rw [if_neg h, List.filter_cons_of_neg (by simpa [and_assoc] using h)]; simp
theorem cnt_num {u : Int} {l : List Ent} (h : ∀ x ∈ l, x.at_ ≤ u) (k a b : Int) : cnt k u a b l = num k a b l := by
  unfold cnt num
  congr 2
  apply List.filter_congr
  intro x hx
  simp [hit, h x hx]
/-- Timer I was started. -/
def conf (l : List Ent) : Bool := l.any fun x => x.out.kind == 4 && x.out.timer == 9
theorem conf_snoc (l : List Ent) (x : Ent) : conf (l ++ [x]) = (conf l || (x.out.kind == 4 && x.out.timer == 9)) := by simp [conf]

/-! ### Which timer fires -/
theorem scan_min (d : List Int) (t : Int) : ∀ n, (scan d t n < 0 → ∀ i, i < n → ¬ (0 ≤ d.getD i 0 ∧ d.getD i 0 ≤ t)) ∧ (0 ≤ scan d t n → ∀ i, i < n → 0 ≤ d.getD i 0 ∧ d.getD i 0 ≤ t → d.getD (scan d t n).toNat 0 ≤ d.getD i 0)
  | 0 => ⟨fun _ i hi => absurd hi (by omega), fun _ i hi => absurd hi (by omega)⟩
  | n + 1 => by
    have ih := scan_min d t n
    by_cases hc : 0 ≤ d.getD n 0 ∧ d.getD n 0 ≤ t ∧ (scan d t n < 0 ∨ d.getD n 0 < d.getD (scan d t n).toNat 0)
    · have e : scan d t (n + 1) = n := by rw [scan, if_pos hc]
      rw [e]
      refine ⟨fun h => absurd h (by omega), fun _ i hi hd => ?_⟩
      rw [Int.toNat_natCast]
      by_cases hin : i = n
      · rw [hin]; exact Int.le_refl _
      · rcases hc.2.2 with h | h
        · exact absurd hd (ih.1 h i (by omega))
        · have h2 : 0 ≤ scan d t n ∨ scan d t n < 0 := by omega
          rcases h2 with h2 | h2
          · have := ih.2 h2 i (by omega) hd; omega
          · exact absurd hd (ih.1 h2 i (by omega))
    · have e : scan d t (n + 1) = scan d t n := by rw [scan, if_neg hc]
      rw [e]
      refine ⟨fun h i hi hd => ?_, fun h i hi hd => ?_⟩
      · by_cases hin : i = n
        · subst hin; exact hc ⟨hd.1, hd.2, .inl h⟩
        · exact ih.1 h i (by omega) hd
      · by_cases hin : i = n
        · subst hin
          by_cases h3 : d.getD i 0 < d.getD (scan d t i).toNat 0
          · exact absurd ⟨hd.1, hd.2, .inr h3⟩ hc
          · omega
        · exact ih.2 h i (by omega) hd

/-! ### The invariant -/
def dueL (g h i e : Int) : List Int := [-1, -1, -1, -1, -1, -1, -1, g, h, i, -1, -1, e, -1]
/-- What the log holds in a state: sends of final answers, of rejecting ones, the confirmation, failures, timeouts, ends, requests to the user. -/
def G3 (l : List Ent) : Prop := num 1 200 699 l = 0 ∧ num 1 300 699 l = 0 ∧ conf l = false ∧ num 6 0 1000 l = 0 ∧ num 5 0 1000 l = 0 ∧ num 7 0 1000 l = 0
def G4 (l : List Ent) : Prop := num 1 300 699 l = 0 ∧ conf l = false ∧ num 6 0 1000 l = 0 ∧ num 5 0 1000 l = 0 ∧ num 7 0 1000 l = 0
def G5 (l : List Ent) : Prop := 1 ≤ num 1 300 699 l ∧ conf l = false ∧ num 6 0 1000 l = 0 ∧ num 5 0 1000 l = 0 ∧ num 7 0 1000 l = 0
def G6 (l : List Ent) : Prop := 1 ≤ num 1 300 699 l ∧ conf l = true ∧ num 6 0 1000 l = 0 ∧ num 5 0 1000 l = 0 ∧ num 7 0 1000 l = 0
def G7 (l : List Ent) : Prop := num 7 0 1000 l = 1 ∧ (∃ q x, l = q ++ [x] ∧ x.out.kind = 7) ∧ num 5 0 1000 l ≤ 1 ∧ (num 5 0 1000 l = 1 ↔ (1 ≤ num 1 300 699 l ∧ conf l = false ∧ num 6 0 1000 l = 0))
def Sh (m : Mach) (g h i e : Int) (l : List Ent) (now : Int) : Prop :=
  (∃ c, 100 ≤ c ∧ c ≤ 199 ∧ m = ⟨3, 0, c⟩ ∧ g = -1 ∧ h = -1 ∧ i = -1 ∧ e = -1 ∧ G3 l) ∨
  (∃ c, 200 ≤ c ∧ c ≤ 299 ∧ m = ⟨4, 0, c⟩ ∧ g = -1 ∧ h = -1 ∧ i = -1 ∧ 0 ≤ e ∧ G4 l) ∨
  (∃ (c s : Int) (j : Nat), 300 ≤ c ∧ c ≤ 699 ∧ j ≤ 10 ∧ m = ⟨5, wK j, c⟩ ∧ 0 ≤ s ∧ s ≤ now ∧ now ≤ s + 32000 ∧ g = s + atK (j + 1) ∧ h = s + 32000 ∧ i = -1 ∧ e = -1 ∧ G5 l) ∨
  (∃ c, 300 ≤ c ∧ c ≤ 699 ∧ m = ⟨6, 0, c⟩ ∧ 0 ≤ i ∧ e = -1 ∧ G6 l) ∨
  (∃ c, 100 ≤ c ∧ c ≤ 699 ∧ m = ⟨7, 0, c⟩ ∧ G7 l)
structure Inv (m : Mach) (g h i e now : Int) (l : List Ent) : Prop where
  sh : Sh m g h i e l now
  nw : 0 ≤ now
  pg : g = -1 ∨ now ≤ g
  ph : h = -1 ∨ now ≤ h
  pi : i = -1 ∨ now ≤ i
  pe : e = -1 ∨ now ≤ e
  at_ : ∀ x ∈ l, x.at_ ≤ now
  us : num 3 0 1000 l = 1
  uh : h ≤ now + 32000
  ui : i ≤ now + 5000
  ue : e ≤ now + 32000
def InvS (σ : Sim) : Prop := ∃ g h i e, σ.due = dueL g h i e ∧ Inv σ.m g h i e σ.now σ.log

theorem at_snoc {l : List Ent} {now : Int} {o : Out} (h : ∀ x ∈ l, x.at_ ≤ now) : ∀ x ∈ l ++ [⟨now, o⟩], x.at_ ≤ now := by
  intro x hx
  rcases List.mem_append.1 hx with h1 | h1
  · exact h x h1
  · obtain rfl : x = ⟨now, o⟩ := by simpa using h1
    exact Int.le_refl _
theorem at_mono {l : List Ent} {now u : Int} (h : ∀ x ∈ l, x.at_ ≤ now) (hu : now ≤ u) : ∀ x ∈ l, x.at_ ≤ u := fun x hx => Int.le_trans (h x hx) hu
theorem us_snoc {l : List Ent} {n : Int} {o : Out} (h : num 3 0 1000 l = 1) (ho : o.kind ≠ 3) : num 3 0 1000 (l ++ [⟨n, o⟩]) = 1 := by
  rw [num_snoc, h, if_neg (by simp [ho])]

theorem start_inv : InvS startS := by
  refine ⟨-1, -1, -1, -1, rfl, ?_⟩
  refine ⟨.inl ⟨100, by omega, by omega, rfl, rfl, rfl, rfl, rfl, ?_⟩, by decide, .inl rfl, .inl rfl, .inl rfl, .inl rfl, ?_, ?_, by decide, by decide, by decide⟩
  · refine ⟨?_, ?_, ?_, ?_, ?_, ?_⟩ <;> decide
  · decide
  · decide

theorem take_same (m : Mach) (d : List Int) (n : Int) (l : List Ent) : takeS ⟨m, d, n, l⟩ m [] = ⟨m, d, n, l⟩ := rfl
theorem take_1 (m m' : Mach) (a b d e n : Int) (l : List Ent) (o : Out) (h : o.kind ≠ 4) : takeS ⟨m, dueL a b d e, n, l⟩ m' [o] = ⟨m', dueL a b d e, n, l ++ [⟨n, o⟩]⟩ := by
  simp [takeS, takeOne, h]
theorem take_2 (m m' : Mach) (a b d e n : Int) (l : List Ent) (o p : Out) (h : o.kind ≠ 4) (h' : p.kind ≠ 4) : takeS ⟨m, dueL a b d e, n, l⟩ m' [o, p] = ⟨m', dueL a b d e, n, l ++ [⟨n, o⟩] ++ [⟨n, p⟩]⟩ := by
  simp [takeS, takeOne, h, h']

theorem pm_3 {c : Int} (h1 : 100 ≤ c) (h2 : c ≤ 199) : mayB 3 0 c = true := by simp [mayB, fromB, h1, h2]
theorem pm_4 {c : Int} (h1 : 200 ≤ c) (h2 : c ≤ 299) : mayB 4 0 c = true := by simp [mayB, fromB, h1, h2]
theorem wK_ok (j : Nat) : wOk (wK j) = true := by
  match j with
  | 0 | 1 | 2 => decide
  | n + 3 => simp [wK, wOk]
theorem pm_5 {c : Int} (j : Nat) (h1 : 300 ≤ c) (h2 : c ≤ 699) : mayB 5 (wK j) c = true := by simp [mayB, fromB, h1, h2, wK_ok]
theorem pm_6 {c : Int} (h1 : 300 ≤ c) (h2 : c ≤ 699) : mayB 6 0 c = true := by simp [mayB, fromB, h1, h2]
theorem pm_7 {c : Int} (h1 : 100 ≤ c) (h2 : c ≤ 699) : mayB 7 0 c = true := by simp [mayB, fromB, h1, h2]
theorem Inv.may {m : Mach} {g h i e now : Int} {l : List Ent} (hi : Inv m g h i e now l) : mayB m.st m.wait m.code = true := by
  rcases hi.sh with ⟨c, h1, h2, rfl, _⟩ | ⟨c, h1, h2, rfl, _⟩ | ⟨c, s, j, h1, h2, _, rfl, _⟩ | ⟨c, h1, h2, rfl, _⟩ | ⟨c, h1, h2, rfl, _⟩
  · exact pm_3 h1 h2
  · exact pm_4 h1 h2
  · exact pm_5 j h1 h2
  · exact pm_6 h1 h2
  · exact pm_7 h1 h2

/-! ### Outputs in the log -/
theorem G3.prov {l : List Ent} {n c : Int} (h : G3 l) (h2 : c ≤ 199) : G3 (l ++ [⟨n, ⟨1, c, 0, 0⟩⟩]) := by
  obtain ⟨a, b, c', d, e, f⟩ := h
  refine ⟨?_, ?_, ?_, ?_, ?_, ?_⟩
  · rw [num_snoc, a, if_neg (by simp; omega)]
  · rw [num_snoc, b, if_neg (by simp; omega)]
  · rw [conf_snoc, c']; simp
  · rw [num_snoc, d, if_neg (by simp)]
  · rw [num_snoc, e, if_neg (by simp)]
  · rw [num_snoc, f, if_neg (by simp)]
theorem G3.acc {l : List Ent} {n c : Int} (h : G3 l) (h2 : c ≤ 299) : G4 (l ++ [⟨n, ⟨1, c, 0, 0⟩⟩] ++ [⟨n, ⟨4, 0, 12, 32000⟩⟩]) := by
  obtain ⟨a, b, c', d, e, f⟩ := h
  refine ⟨?_, ?_, ?_, ?_, ?_⟩
  · rw [num_snoc, num_snoc, b, if_neg (by simp; omega), if_neg (by simp)]
  · rw [conf_snoc, conf_snoc, c']; simp
  · rw [num_snoc, num_snoc, d, if_neg (by simp), if_neg (by simp)]
  · rw [num_snoc, num_snoc, e, if_neg (by simp), if_neg (by simp)]
  · rw [num_snoc, num_snoc, f, if_neg (by simp), if_neg (by simp)]
theorem G3.rej {l : List Ent} {n c : Int} (h : G3 l) (h1 : 300 ≤ c) (h2 : c ≤ 699) : G5 (l ++ [⟨n, ⟨1, c, 0, 0⟩⟩] ++ [⟨n, ⟨4, 0, 7, 500⟩⟩] ++ [⟨n, ⟨4, 0, 8, 32000⟩⟩]) := by
  obtain ⟨a, b, c', d, e, f⟩ := h
  refine ⟨?_, ?_, ?_, ?_, ?_⟩
  · rw [num_snoc, num_snoc, num_snoc, if_pos ⟨rfl, h1, h2⟩]; omega
  · rw [conf_snoc, conf_snoc, conf_snoc, c']; simp
  · rw [num_snoc, num_snoc, num_snoc, d, if_neg (by simp), if_neg (by simp)]
  · rw [num_snoc, num_snoc, num_snoc, e, if_neg (by simp), if_neg (by simp)]
  · rw [num_snoc, num_snoc, num_snoc, f, if_neg (by simp), if_neg (by simp)]
theorem G3.fail {l : List Ent} {n : Int} (h : G3 l) : G7 (l ++ [⟨n, ⟨6, 0, 0, 0⟩⟩] ++ [⟨n, ⟨7, 0, 0, 0⟩⟩]) := by
  obtain ⟨a, b, c', d, e, f⟩ := h
  have x1 : num 7 0 1000 (l ++ [⟨n, ⟨6, 0, 0, 0⟩⟩] ++ [⟨n, ⟨7, 0, 0, 0⟩⟩]) = 1 := by rw [num_snoc, num_snoc, f, if_neg (by simp), if_pos (by simp)]
  have x2 : num 5 0 1000 (l ++ [⟨n, ⟨6, 0, 0, 0⟩⟩] ++ [⟨n, ⟨7, 0, 0, 0⟩⟩]) = 0 := by rw [num_snoc, num_snoc, e, if_neg (by simp), if_neg (by simp)]
  have x3 : num 1 300 699 (l ++ [⟨n, ⟨6, 0, 0, 0⟩⟩] ++ [⟨n, ⟨7, 0, 0, 0⟩⟩]) = 0 := by rw [num_snoc, num_snoc, b, if_neg (by simp), if_neg (by simp)]
  exact ⟨x1, ⟨_, _, rfl, rfl⟩, by omega, by rw [x2, x3]; omega⟩
theorem G4.acc {l : List Ent} {n c : Int} (h : G4 l) (h2 : c ≤ 299) : G4 (l ++ [⟨n, ⟨1, c, 0, 0⟩⟩]) := by
  obtain ⟨b, c', d, e, f⟩ := h
  refine ⟨?_, ?_, ?_, ?_, ?_⟩
  · rw [num_snoc, b, if_neg (by simp; omega)]
  · rw [conf_snoc, c']; simp
  · rw [num_snoc, d, if_neg (by simp)]
  · rw [num_snoc, e, if_neg (by simp)]
  · rw [num_snoc, f, if_neg (by simp)]
theorem G4.fin {l : List Ent} {n : Int} (h : G4 l) : G7 (l ++ [⟨n, ⟨7, 0, 0, 0⟩⟩]) := by
  obtain ⟨b, c', d, e, f⟩ := h
  have x1 : num 7 0 1000 (l ++ [⟨n, ⟨7, 0, 0, 0⟩⟩]) = 1 := by rw [num_snoc, f, if_pos (by simp)]
  have x2 : num 5 0 1000 (l ++ [⟨n, ⟨7, 0, 0, 0⟩⟩]) = 0 := by rw [num_snoc, e, if_neg (by simp)]
  have x3 : num 1 300 699 (l ++ [⟨n, ⟨7, 0, 0, 0⟩⟩]) = 0 := by rw [num_snoc, b, if_neg (by simp)]
  exact ⟨x1, ⟨_, _, rfl, rfl⟩, by omega, by rw [x2, x3]; omega⟩
theorem G5.send {l : List Ent} {n c : Int} (h : G5 l) : G5 (l ++ [⟨n, ⟨1, c, 0, 0⟩⟩]) := by
  obtain ⟨b, c', d, e, f⟩ := h
  refine ⟨?_, ?_, ?_, ?_, ?_⟩
  · rw [num_snoc]; omega
  · rw [conf_snoc, c']; simp
  · rw [num_snoc, d, if_neg (by simp)]
  · rw [num_snoc, e, if_neg (by simp)]
  · rw [num_snoc, f, if_neg (by simp)]
theorem G5.timer {l : List Ent} {n a : Int} (h : G5 l) : G5 (l ++ [⟨n, ⟨4, 0, 7, a⟩⟩]) := by
  obtain ⟨b, c', d, e, f⟩ := h
  refine ⟨?_, ?_, ?_, ?_, ?_⟩
  · rw [num_snoc]; omega
  · rw [conf_snoc, c']; simp
  · rw [num_snoc, d, if_neg (by simp)]
  · rw [num_snoc, e, if_neg (by simp)]
  · rw [num_snoc, f, if_neg (by simp)]
theorem G5.ack {l : List Ent} {n : Int} (h : G5 l) : G6 (l ++ [⟨n, ⟨4, 0, 9, 5000⟩⟩]) := by
  obtain ⟨b, c', d, e, f⟩ := h
  refine ⟨?_, ?_, ?_, ?_, ?_⟩
  · rw [num_snoc]; omega
  · rw [conf_snoc]; simp
  · rw [num_snoc, d, if_neg (by simp)]
  · rw [num_snoc, e, if_neg (by simp)]
  · rw [num_snoc, f, if_neg (by simp)]
theorem G5.fail {l : List Ent} {n : Int} (h : G5 l) : G7 (l ++ [⟨n, ⟨6, 0, 0, 0⟩⟩] ++ [⟨n, ⟨7, 0, 0, 0⟩⟩]) := by
  obtain ⟨b, c', d, e, f⟩ := h
  have x1 : num 7 0 1000 (l ++ [⟨n, ⟨6, 0, 0, 0⟩⟩] ++ [⟨n, ⟨7, 0, 0, 0⟩⟩]) = 1 := by rw [num_snoc, num_snoc, f, if_neg (by simp), if_pos (by simp)]
  have x2 : num 5 0 1000 (l ++ [⟨n, ⟨6, 0, 0, 0⟩⟩] ++ [⟨n, ⟨7, 0, 0, 0⟩⟩]) = 0 := by rw [num_snoc, num_snoc, e, if_neg (by simp), if_neg (by simp)]
  have x3 : num 6 0 1000 (l ++ [⟨n, ⟨6, 0, 0, 0⟩⟩] ++ [⟨n, ⟨7, 0, 0, 0⟩⟩]) = 1 := by rw [num_snoc, num_snoc, d, if_pos (by simp), if_neg (by simp)]
  exact ⟨x1, ⟨_, _, rfl, rfl⟩, by omega, by rw [x2, x3]; omega⟩
theorem G5.out {l : List Ent} {n : Int} (h : G5 l) : G7 (l ++ [⟨n, ⟨5, 0, 0, 0⟩⟩] ++ [⟨n, ⟨7, 0, 0, 0⟩⟩]) := by
  obtain ⟨b, c', d, e, f⟩ := h
  have x1 : num 7 0 1000 (l ++ [⟨n, ⟨5, 0, 0, 0⟩⟩] ++ [⟨n, ⟨7, 0, 0, 0⟩⟩]) = 1 := by rw [num_snoc, num_snoc, f, if_neg (by simp), if_pos (by simp)]
  have x2 : num 5 0 1000 (l ++ [⟨n, ⟨5, 0, 0, 0⟩⟩] ++ [⟨n, ⟨7, 0, 0, 0⟩⟩]) = 1 := by rw [num_snoc, num_snoc, e, if_pos (by simp), if_neg (by simp)]
  have x3 : num 6 0 1000 (l ++ [⟨n, ⟨5, 0, 0, 0⟩⟩] ++ [⟨n, ⟨7, 0, 0, 0⟩⟩]) = 0 := by rw [num_snoc, num_snoc, d, if_neg (by simp), if_neg (by simp)]
  have x4 : conf (l ++ [⟨n, ⟨5, 0, 0, 0⟩⟩] ++ [⟨n, ⟨7, 0, 0, 0⟩⟩]) = false := by rw [conf_snoc, conf_snoc, c']; simp
  have x5 : 1 ≤ num 1 300 699 (l ++ [⟨n, ⟨5, 0, 0, 0⟩⟩] ++ [⟨n, ⟨7, 0, 0, 0⟩⟩]) := by rw [num_snoc, num_snoc]; omega
  exact ⟨x1, ⟨_, _, rfl, rfl⟩, by omega, ⟨fun _ => ⟨x5, x4, x3⟩, fun _ => x2⟩⟩
theorem G6.fin {l : List Ent} {n : Int} (h : G6 l) : G7 (l ++ [⟨n, ⟨7, 0, 0, 0⟩⟩]) := by
  obtain ⟨b, c', d, e, f⟩ := h
  have x1 : num 7 0 1000 (l ++ [⟨n, ⟨7, 0, 0, 0⟩⟩]) = 1 := by rw [num_snoc, f, if_pos (by simp)]
  have x2 : num 5 0 1000 (l ++ [⟨n, ⟨7, 0, 0, 0⟩⟩]) = 0 := by rw [num_snoc, e, if_neg (by simp)]
  have x4 : conf (l ++ [⟨n, ⟨7, 0, 0, 0⟩⟩]) = true := by rw [conf_snoc, c']; simp
  exact ⟨x1, ⟨_, _, rfl, rfl⟩, by omega, ⟨fun h => by omega, fun h => by rw [x4] at h; exact absurd h.2.1 (by simp)⟩⟩
end Go.Proofs.Ytgjhnaionalbpaa
