/- The plain laws of the simulated client: an invariant of the machine, its timers and its log. -/
import Derived.Test.YtdooohanhekniaaSg
import Derived.Test.YtdooohanhekniaaS
namespace Go.Proofs.Ytdooohanhekniaa

/-! ### Counting in the log -/
def num (k a b : Int) (l : List Ent) : Nat := (l.filter fun x => x.out.kind == k && decide (a ≤ x.out.code) && decide (x.out.code ≤ b)).length
theorem num_nil (k a b : Int) : num k a b [] = 0 := rfl
theorem num_snoc (k a b : Int) (l : List Ent) (x : Ent) : num k a b (l ++ [x]) = num k a b l + if x.out.kind = k ∧ a ≤ x.out.code ∧ x.out.code ≤ b then 1 else 0 := by
  unfold num; rw [List.filter_append]
  by_cases h : x.out.kind = k ∧ a ≤ x.out.code ∧ x.out.code ≤ b
  · simp [h]
  · rw [if_neg h, List.filter_cons_of_neg (by simpa [and_assoc] using h)]; simp
theorem cnt_num {u : Int} {l : List Ent} (h : ∀ x ∈ l, x.at_ ≤ u) (k a b : Int) : cnt k u a b l = num k a b l := by
  unfold cnt num
  congr 2
  apply List.filter_congr
  intro x hx
  simp [hit, h x hx]
def fin (l : List Ent) : Bool := l.any fun x => x.out.kind == 3 && decide (200 ≤ x.out.code)
theorem fin_snoc (l : List Ent) (x : Ent) : fin (l ++ [x]) = (fin l || (x.out.kind == 3 && decide (200 ≤ x.out.code))) := by simp [fin]
def Ord (l : List Ent) : Prop := ∀ (i : Nat) (x : Ent), l[i]? = some x → x.out.kind = 3 → fin (l.take i) = true → 200 ≤ x.out.code
theorem Ord.nil_ : Ord [] := fun i x h => by simp at h
theorem Ord.snoc {l : List Ent} {x : Ent} (h : Ord l) (hx : x.out.kind = 3 → fin l = true → 200 ≤ x.out.code) : Ord (l ++ [x]) := by
  intro i y hy hk hf
  rcases Nat.lt_trichotomy i l.length with h1 | h1 | h1
  · rw [List.getElem?_append_left h1] at hy
    rw [List.take_append_of_le_length (by omega)] at hf
    exact h i y hy hk hf
  · subst h1
    rw [List.getElem?_append_right (Nat.le_refl _)] at hy
    obtain rfl : x = y := by simpa using hy
    rw [List.take_left] at hf
    exact hx hk hf
  · rw [List.getElem?_eq_none (by simp; omega)] at hy; cases hy

/-! ### Which timer fires -/
theorem scan_min (d : List Int) (t : Int) : ∀ n, (scan d t n < 0 → ∀ i, i < n → ¬ (0 ≤ d.getD i 0 ∧ d.getD i 0 ≤ t)) ∧ (0 ≤ scan d t n → ∀ i, i < n → 0 ≤ d.getD i 0 ∧ d.getD i 0 ≤ t → d.getD (scan d t n).toNat 0 ≤ d.getD i 0)
  | 0 => ⟨fun _ i hi => absurd hi (by omega), fun _ i hi => absurd hi (by omega)⟩
  | n + 1 => by
    have ih := scan_min d t n
    by_cases hc : 0 ≤ d.getD n 0 ∧ d.getD n 0 ≤ t ∧ (scan d t n < 0 ∨ d.getD n 0 < d.getD (scan d t n).toNat 0)
    · have e : scan d t (n + 1) = n := by rw [scan, if_pos hc]
      rw [e]
      refine ⟨fun h => absurd h (by omega), fun _ i hi hd => ?_⟩
      rw [Int.toNat_natCast]
      by_cases hin : i = n
      · rw [hin]; exact Int.le_refl _
      · rcases hc.2.2 with h | h
        · exact absurd hd (ih.1 h i (by omega))
        · have h2 : 0 ≤ scan d t n ∨ scan d t n < 0 := by omega
          rcases h2 with h2 | h2
          · have := ih.2 h2 i (by omega) hd; omega
          · exact absurd hd (ih.1 h2 i (by omega))
    · have e : scan d t (n + 1) = scan d t n := by rw [scan, if_neg hc]
      rw [e]
      refine ⟨fun h i hi hd => ?_, fun h i hi hd => ?_⟩
      · by_cases hin : i = n
        · subst hin; exact hc ⟨hd.1, hd.2, .inl h⟩
        · exact ih.1 h i (by omega) hd
      · by_cases hin : i = n
        · subst hin
          by_cases h3 : d.getD i 0 < d.getD (scan d t i).toNat 0
          · exact absurd ⟨hd.1, hd.2, .inr h3⟩ hc
          · omega
        · exact ih.2 h i (by omega) hd

/-! ### The invariant -/
def dueL (a b d e : Int) : List Int := [-1, a, b, -1, d, -1, -1, -1, -1, -1, -1, -1, -1, e]
def G1 (l : List Ent) : Prop := num 3 0 1000 l = 0 ∧ num 3 200 299 l = 0 ∧ num 3 300 699 l = 0 ∧ num 5 0 1000 l = 0 ∧ num 7 0 1000 l = 0 ∧ fin l = false
def G3 (l : List Ent) : Prop := num 3 200 299 l = 0 ∧ num 3 300 699 l = 0 ∧ num 5 0 1000 l = 0 ∧ num 7 0 1000 l = 0 ∧ fin l = false
def G4 (l : List Ent) : Prop := num 3 300 699 l = 0 ∧ num 5 0 1000 l = 0 ∧ num 7 0 1000 l = 0
def G5 (l : List Ent) : Prop := num 3 300 699 l = 1 ∧ num 3 200 299 l = 0 ∧ num 5 0 1000 l = 0 ∧ num 7 0 1000 l = 0 ∧ 1 ≤ num 2 300 699 l
def G7 (l : List Ent) : Prop := num 7 0 1000 l = 1 ∧ (∃ q x, l = q ++ [x] ∧ x.out.kind = 7) ∧ ((num 3 300 699 l = 0 ∧ (num 5 0 1000 l = 0 ∨ num 3 0 1000 l = 0)) ∨ (num 3 300 699 l = 1 ∧ num 3 200 299 l = 0 ∧ num 5 0 1000 l = 0 ∧ 1 ≤ num 2 300 699 l))
def Sh (m : Mach) (a b d e : Int) (l : List Ent) (now : Int) : Prop :=
  (∃ k : Nat, k ≤ 6 ∧ m = ⟨1, wK k, 0⟩ ∧ a = atK (k + 1) ∧ b = 32000 ∧ d = -1 ∧ e = -1 ∧ now ≤ 32000 ∧ G1 l) ∨
  (m = ⟨3, 0, 0⟩ ∧ G3 l) ∨
  (∃ c, 200 ≤ c ∧ c ≤ 299 ∧ m = ⟨4, 0, c⟩ ∧ 0 ≤ e ∧ G4 l) ∨
  (∃ c, 300 ≤ c ∧ c ≤ 699 ∧ m = ⟨5, 0, c⟩ ∧ 0 ≤ d ∧ G5 l) ∨
  (∃ c, (c = 0 ∨ 200 ≤ c ∧ c ≤ 699) ∧ m = ⟨7, 0, c⟩ ∧ G7 l)
structure Inv (m : Mach) (a b d e now : Int) (l : List Ent) : Prop where
  sh : Sh m a b d e l now
  nw : 0 ≤ now
  pa : a = -1 ∨ now ≤ a
  pb : b = -1 ∨ now ≤ b
  pd : d = -1 ∨ now ≤ d
  pe : e = -1 ∨ now ≤ e
  at_ : ∀ x ∈ l, x.at_ ≤ now
  ord : Ord l
  ud : d ≤ now + 32000
  ue : e ≤ now + 32000
/-- The invariant of a sim. -/
def InvS (σ : Sim) : Prop := ∃ a b d e, σ.due = dueL a b d e ∧ Inv σ.m a b d e σ.now σ.log

theorem at_snoc {l : List Ent} {now : Int} {o : Out} (h : ∀ x ∈ l, x.at_ ≤ now) : ∀ x ∈ l ++ [⟨now, o⟩], x.at_ ≤ now := by
  intro x hx
  rcases List.mem_append.1 hx with h1 | h1
  · exact h x h1
  · obtain rfl : x = ⟨now, o⟩ := by simpa using h1
    exact Int.le_refl _
theorem at_mono {l : List Ent} {now u : Int} (h : ∀ x ∈ l, x.at_ ≤ now) (hu : now ≤ u) : ∀ x ∈ l, x.at_ ≤ u := fun x hx => Int.le_trans (h x hx) hu

theorem start_inv : InvS startS := by
  refine ⟨500, 32000, -1, -1, rfl, ?_⟩
  refine ⟨.inl ⟨0, by omega, rfl, rfl, rfl, rfl, rfl, by decide, ?_⟩, by decide, .inr (by decide), .inr (by decide), .inl rfl, .inl rfl, ?_, ?_, by decide, by decide⟩
  · refine ⟨?_, ?_, ?_, ?_, ?_, ?_⟩ <;> decide
  · decide
  · show Ord ((([] ++ [_]) ++ [_]) ++ [_])
    exact ((Ord.nil_.snoc (by simp [fin])).snoc (by simp)).snoc (by simp)
end Go.Proofs.Ytdooohanhekniaa
