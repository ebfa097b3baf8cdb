/- inviteserver's Step returns what stepS says. -/
import Derived.Test.YtgjhnaionalbpaaE
namespace Go.Proofs.Ytgjhnaionalbpaa
open Go.RowKit

set_option maxHeartbeats 2000000 in
theorem step_5_5 (wt c ic t : Int) (w : World) (hm : mayB 5 wt c = true) (h0 : 0 ≤ wt) (h1 : wt ≤ 4000) : Calls Try.prog 25 #[.agg #[.int .u8 5, .int .i64 wt, .int .i64 c], .agg #[.int .u8 5, .int .i64 ic, .int .u8 t]] w (RetMO w (firedS ⟨5, wt, c⟩ t).1 (firedS ⟨5, wt, c⟩ t).2) := by
  generalize hr : firedS ⟨5, wt, c⟩ t = r
  obtain ⟨⟨a0, a1, a2⟩, l⟩ := r
  have HR := Lib.hid hr; clear hr
  go_enter Try.func25, Try.ntmps25
  go_wp2_with (first | (go_at_call 14; refine (may_any _ _ _ _).mono ?_; rintro e w' ⟨rfl, rfl⟩) | fail)
  refine (fired_any _ _ _ _ _ h0 h1).mono ?_
  rw [HR.out]
  rintro e w1 ⟨v, rfl, hout, hb⟩
  obtain ⟨hc, hf⟩ := bcell hb
  have hz := hb.size
  simp only [World.size_alloc] at hz
  have hz1 : w.heap.size + 1 + 1 < w1.heap.size := by omega
  have HO := Lib.hid hout; clear hout; have HB := Lib.hid hb; clear hb
  go_wp2
  refine bodyPost_ret (v := .tuple #[.agg #[.int .u8 a0, .int .i64 a1, .int .i64 a2], v]) (by simp [results, Try.results25, go_sem, hc, hz1]) rfl ⟨v, rfl, ?_, ?_⟩
  · have ho := HO.out; simp only [World.size_alloc] at ho
    exact Outs.lower (((ho.setCell (by simp; try omega) _).setCell (by simp; try omega) _).setCell (by simp; try omega) _) (by omega)
  · have hb := HB.out; simp only [World.size_alloc] at hb
    refine Below.setCell (Below.setCell (Below.setCell (Below.trans ?_ (hb.mono (by omega))) (by simp; try omega) _) (by simp; try omega) _) (by simp; try omega) _
    repeat (first | exact Below.refl _ _ | refine Below.al _ (by simp; try omega) ?_ | refine Below.drew ?_)

set_option maxHeartbeats 2000000 in
theorem step_3_4 (wt c ic t : Int) (w : World) (hm : mayB 3 wt c = true) : Calls Try.prog 25 #[.agg #[.int .u8 3, .int .i64 wt, .int .i64 c], .agg #[.int .u8 4, .int .i64 ic, .int .u8 t]] w (RetMO w (answS ⟨3, wt, c⟩ ic).1 (answS ⟨3, wt, c⟩ ic).2) := by
  generalize hr : answS ⟨3, wt, c⟩ ic = r
  obtain ⟨⟨a0, a1, a2⟩, l⟩ := r
  have HR := Lib.hid hr; clear hr
  go_enter Try.func25, Try.ntmps25
  go_wp2_with (first | (go_at_call 14; refine (may_any _ _ _ _).mono ?_; rintro e w' ⟨rfl, rfl⟩) | fail)
  refine (answ_any _ _ _ _ _).mono ?_
  rw [HR.out]
  rintro e w1 ⟨v, rfl, hout, hb⟩
  obtain ⟨hc, hf⟩ := bcell hb
  have hz := hb.size
  simp only [World.size_alloc] at hz
  have hz1 : w.heap.size + 1 + 1 < w1.heap.size := by omega
  have HO := Lib.hid hout; clear hout; have HB := Lib.hid hb; clear hb
  go_wp2
  refine bodyPost_ret (v := .tuple #[.agg #[.int .u8 a0, .int .i64 a1, .int .i64 a2], v]) (by simp [results, Try.results25, go_sem, hc, hz1]) rfl ⟨v, rfl, ?_, ?_⟩
  · have ho := HO.out; simp only [World.size_alloc] at ho
    exact Outs.lower (((ho.setCell (by simp; try omega) _).setCell (by simp; try omega) _).setCell (by simp; try omega) _) (by omega)
  · have hb := HB.out; simp only [World.size_alloc] at hb
    refine Below.setCell (Below.setCell (Below.setCell (Below.trans ?_ (hb.mono (by omega))) (by simp; try omega) _) (by simp; try omega) _) (by simp; try omega) _
    repeat (first | exact Below.refl _ _ | refine Below.al _ (by simp; try omega) ?_ | refine Below.drew ?_)

set_option maxHeartbeats 2000000 in
theorem step_o (s wt c k ic t : Int) (w : World) (hm : mayB s wt c = true) (g3 : (s == 3) = false) (g4 : (s == 4) = false) (g5 : (s == 5) = false) (g6 : (s == 6) = false) : Calls Try.prog 25 #[.agg #[.int .u8 s, .int .i64 wt, .int .i64 c], .agg #[.int .u8 k, .int .i64 ic, .int .u8 t]] w (RetMO w ⟨s, wt, c⟩ []) := by
  go_enter Try.func25, Try.ntmps25
  go_wp2_with (go_at_call 14; refine (may_any _ _ _ _).mono ?_; rintro e w' ⟨rfl, rfl⟩)
  refine bodyPost_ret (v := .tuple #[.agg #[.int .u8 s, .int .i64 wt, .int .i64 c], .slice none 0 0]) (by simp [results, Try.results25, go_sem]) rfl ⟨_, rfl, ?_, ?_⟩
  · exact Outs.none_ _ _
  · repeat (first | exact Below.refl _ _ | refine Below.al _ (by simp; try omega) ?_ | refine Below.drew ?_)

theorem may_wait5 {wt c : Int} (h : mayB 5 wt c = true) : 0 ≤ wt ∧ wt ≤ 4000 := by
  simp [mayB, wOk] at h; omega
theorem class_3of {c : Int} (h : 200 ≤ c ∧ c ≤ 299) : classOf c = 3 := by
  rcases class_cases c with g | g | g | g | g <;> first | exact g.2 | (exfalso; omega)
theorem class_not3 {c : Int} (h : ¬ (200 ≤ c ∧ c ≤ 299)) : (classOf c == 3) = false := by
  rcases class_cases c with g | g | g | g | g <;> first | (rw [g.2]; rfl) | (exfalso; omega)

theorem step_any (s wt c k ic t : Int) (w : World) : Calls Try.prog 25 #[.agg #[.int .u8 s, .int .i64 wt, .int .i64 c], .agg #[.int .u8 k, .int .i64 ic, .int .u8 t]] w (RetMO w (stepS ⟨s, wt, c⟩ ⟨k, ic, t⟩).1 (stepS ⟨s, wt, c⟩ ⟨k, ic, t⟩).2) := by
  by_cases hm0 : mayB s wt c = false
  · simpa [stepS, hm0] using step_no wt c ic s k t w hm0
  have hm : mayB s wt c = true := by simpa using hm0
  by_cases a5 : s = 5
  · subst a5
    by_cases k3 : k = 3
    · subst k3; simpa [stepS, hm] using step_5_3 wt c ic t w hm
    by_cases k5 : k = 5
    · subst k5; have hw := may_wait5 hm; simpa [stepS, hm] using step_5_5 wt c ic t w hm hw.1 hw.2
    by_cases k1 : k = 1
    · subst k1; simpa [stepS, hm] using step_5_1 wt c ic t w hm
    by_cases k6 : k = 6
    · subst k6; simpa [stepS, hm] using step_5_6 wt c ic t w hm
    by_cases k4 : k = 4
    · subst k4; simpa [stepS, hm] using step_5_4 wt c ic t w hm
    simpa [stepS, hm, k1, k3, k5, k6] using step_5_o wt c ic k t (by simp [k1]) (by simp [k3]) (by simp [k4]) (by simp [k5]) (by simp [k6]) w hm
  by_cases a3 : s = 3
  · subst a3
    by_cases k1 : k = 1
    · subst k1; simpa [stepS, hm] using step_3_1 wt c ic t w hm
    by_cases k6 : k = 6
    · subst k6; simpa [stepS, hm] using step_3_6 wt c ic t w hm
    by_cases k4 : k = 4
    · subst k4; simpa [stepS, hm] using step_3_4 wt c ic t w hm
    simpa [stepS, hm, k1, k4, k6] using step_3_o wt c ic k t (by simp [k1]) (by simp [k4]) (by simp [k6]) w hm
  by_cases a4 : s = 4
  · subst a4
    by_cases k4 : k = 4
    · subst k4
      by_cases hi : 200 ≤ ic ∧ ic ≤ 299
      · simpa [stepS, hm, hi] using step_4_c wt c ic t w hm (class_3of hi)
      · simpa [stepS, hm, hi] using step_4_d wt c ic t w hm (class_not3 hi)
    by_cases k5 : k = 5
    · subst k5
      by_cases ht : t = 12
      · subst ht; simpa [stepS, hm] using step_4_t wt c ic w hm
      · simpa [stepS, hm, ht] using step_4_b wt c ic t (by simp [ht]) w hm
    simpa [stepS, hm, k4, k5] using step_4_a wt c ic k t (by simp [k4]) (by simp [k5]) w hm
  by_cases a6 : s = 6
  · subst a6
    by_cases k5 : k = 5
    · subst k5
      by_cases ht : t = 9
      · subst ht; simpa [stepS, hm] using step_6_t wt c ic w hm
      · simpa [stepS, hm, ht] using step_6_b wt c ic t (by simp [ht]) w hm
    simpa [stepS, hm, k5] using step_6_a wt c ic k t (by simp [k5]) w hm
  simpa [stepS, hm, a3, a4, a5, a6] using step_o s wt c k ic t w hm (by simp [a3]) (by simp [a4]) (by simp [a5]) (by simp [a6])
end Go.Proofs.Ytgjhnaionalbpaa
