/- Contracts of the reference dialtoneref14: proceeding, completed, Step. -/
import Derived.Test.YtgjhnaionalbpaaF
namespace Go.Proofs.Ytgjhnaionalbpaa
open Go.RowKit

set_option maxHeartbeats 2000000 in
theorem proc_1 (wt c : Int) (s ic t : Int) (w : World) : Calls Try.prog 37 #[.agg #[.int .u8 s, .int .i64 wt, .int .i64 c], .agg #[.int .u8 1, .int .i64 ic, .int .u8 t]] w (RetMO w ⟨s, wt, c⟩ [⟨1, c, 0, 0⟩]) := by
  go_enter Try.func37, Try.ntmps37
  go_wp2_with (go_at_call 39; refine (from_any _ _ _ _).mono ?_; rintro e w' ⟨rfl, rfl⟩)
  go_region
  go_wp2
  refine bodyPost_ret (v := .tuple #[.agg #[.int .u8 s, .int .i64 (wt), .int .i64 c], .slice (some ⟨w.heap.size + 1 + 1 + 1 + 1, 0, none⟩) 1 1]) (by simp [results, Try.results37, go_sem]) rfl ⟨_, rfl, ?_, ?_⟩
  · exact Outs.new (by simp) (by omega) (by rfl) (by rfl)
  · repeat (first | exact Below.refl _ _ | refine Below.al _ (by simp; try omega) ?_ | refine Below.drew ?_)

set_option maxHeartbeats 2000000 in
theorem proc_a (wt c : Int) (s ic t : Int) (h : 101 ≤ ic ∧ ic ≤ 199) (w : World) : Calls Try.prog 37 #[.agg #[.int .u8 s, .int .i64 wt, .int .i64 c], .agg #[.int .u8 4, .int .i64 ic, .int .u8 t]] w (RetMO w ⟨3, 0, ic⟩ [⟨1, ic, 0, 0⟩]) := by
  have f101 : fromB ic 101 199 = true := by simp [fromB]; omega
  clear h
  go_enter Try.func37, Try.ntmps37
  go_wp2_with (go_at_call 39; refine (from_any _ _ _ _).mono ?_; rintro e w' ⟨rfl, rfl⟩)
  go_region
  go_wp2
  refine bodyPost_ret (v := .tuple #[.agg #[.int .u8 3, .int .i64 (0), .int .i64 ic], .slice (some ⟨w.heap.size + 1 + 1 + 1 + 1, 0, none⟩) 1 1]) (by simp [results, Try.results37, go_sem]) rfl ⟨_, rfl, ?_, ?_⟩
  · exact Outs.new (by simp) (by omega) (by rfl) (by rfl)
  · repeat (first | exact Below.refl _ _ | refine Below.al _ (by simp; try omega) ?_ | refine Below.drew ?_)

set_option maxHeartbeats 2000000 in
theorem proc_b (wt c : Int) (s ic t : Int) (h : 200 ≤ ic ∧ ic ≤ 299) (w : World) : Calls Try.prog 37 #[.agg #[.int .u8 s, .int .i64 wt, .int .i64 c], .agg #[.int .u8 4, .int .i64 ic, .int .u8 t]] w (RetMO w ⟨4, 0, ic⟩ [⟨1, ic, 0, 0⟩, ⟨4, 0, 12, 32000⟩]) := by
  have f101 : fromB ic 101 199 = false := by simp [fromB]; omega
  have f200 : fromB ic 200 299 = true := by simp [fromB]; omega
  clear h
  go_enter Try.func37, Try.ntmps37
  go_wp2_with (go_at_call 39; refine (from_any _ _ _ _).mono ?_; rintro e w' ⟨rfl, rfl⟩)
  go_region
  go_wp2
  refine bodyPost_ret (v := .tuple #[.agg #[.int .u8 4, .int .i64 (0), .int .i64 ic], .slice (some ⟨w.heap.size + 1 + 1 + 1 + 1, 0, none⟩) 2 2]) (by simp [results, Try.results37, go_sem]) rfl ⟨_, rfl, ?_, ?_⟩
  · exact Outs.new (by simp) (by omega) (by rfl) (by rfl)
  · repeat (first | exact Below.refl _ _ | refine Below.al _ (by simp; try omega) ?_ | refine Below.drew ?_)

set_option maxHeartbeats 2000000 in
theorem proc_c (wt c : Int) (s ic t : Int) (h : 300 ≤ ic ∧ ic ≤ 699) (w : World) : Calls Try.prog 37 #[.agg #[.int .u8 s, .int .i64 wt, .int .i64 c], .agg #[.int .u8 4, .int .i64 ic, .int .u8 t]] w (RetMO w ⟨5, 500, ic⟩ [⟨1, ic, 0, 0⟩, ⟨4, 0, 7, 500⟩, ⟨4, 0, 8, 32000⟩]) := by
  have f101 : fromB ic 101 199 = false := by simp [fromB]; omega
  have f200 : fromB ic 200 299 = false := by simp [fromB]; omega
  have f300 : fromB ic 300 699 = true := by simp [fromB]; omega
  clear h
  go_enter Try.func37, Try.ntmps37
  go_wp2_with (go_at_call 39; refine (from_any _ _ _ _).mono ?_; rintro e w' ⟨rfl, rfl⟩)
  go_region
  go_wp2
  refine bodyPost_ret (v := .tuple #[.agg #[.int .u8 5, .int .i64 (500), .int .i64 ic], .slice (some ⟨w.heap.size + 1 + 1 + 1 + 1, 0, none⟩) 3 3]) (by simp [results, Try.results37, go_sem]) rfl ⟨_, rfl, ?_, ?_⟩
  · exact Outs.new (by simp) (by omega) (by rfl) (by rfl)
  · repeat (first | exact Below.refl _ _ | refine Below.al _ (by simp; try omega) ?_ | refine Below.drew ?_)

set_option maxHeartbeats 2000000 in
theorem proc_d (wt c : Int) (s ic t : Int) (h : ic < 101 ∨ 699 < ic) (w : World) : Calls Try.prog 37 #[.agg #[.int .u8 s, .int .i64 wt, .int .i64 c], .agg #[.int .u8 4, .int .i64 ic, .int .u8 t]] w (RetMO w ⟨s, wt, c⟩ []) := by
  have f101 : fromB ic 101 199 = false := by simp [fromB]; omega
  have f200 : fromB ic 200 299 = false := by simp [fromB]; omega
  have f300 : fromB ic 300 699 = false := by simp [fromB]; omega
  clear h
  go_enter Try.func37, Try.ntmps37
  go_wp2_with (go_at_call 39; refine (from_any _ _ _ _).mono ?_; rintro e w' ⟨rfl, rfl⟩)
  refine bodyPost_ret (v := .tuple #[.agg #[.int .u8 s, .int .i64 (wt), .int .i64 c], .slice none 0 0]) (by simp [results, Try.results37, go_sem]) rfl ⟨_, rfl, ?_, ?_⟩
  · exact Outs.none_ _ _
  · repeat (first | exact Below.refl _ _ | refine Below.al _ (by simp; try omega) ?_ | refine Below.drew ?_)

set_option maxHeartbeats 2000000 in
theorem proc_o (wt c : Int) (s ic t : Int) (k : Int) (k1 : (k == 1) = false) (k4 : (k == 4) = false) (w : World) : Calls Try.prog 37 #[.agg #[.int .u8 s, .int .i64 wt, .int .i64 c], .agg #[.int .u8 k, .int .i64 ic, .int .u8 t]] w (RetMO w ⟨s, wt, c⟩ []) := by
  go_enter Try.func37, Try.ntmps37
  go_wp2_with (go_at_call 39; refine (from_any _ _ _ _).mono ?_; rintro e w' ⟨rfl, rfl⟩)
  refine bodyPost_ret (v := .tuple #[.agg #[.int .u8 s, .int .i64 (wt), .int .i64 c], .slice none 0 0]) (by simp [results, Try.results37, go_sem]) rfl ⟨_, rfl, ?_, ?_⟩
  · exact Outs.none_ _ _
  · repeat (first | exact Below.refl _ _ | refine Below.al _ (by simp; try omega) ?_ | refine Below.drew ?_)

set_option maxHeartbeats 2000000 in
theorem comp_1 (wt c : Int) (s ic t : Int) (w : World) : Calls Try.prog 38 #[.agg #[.int .u8 s, .int .i64 wt, .int .i64 c], .agg #[.int .u8 1, .int .i64 ic, .int .u8 t]] w (RetMO w ⟨s, wt, c⟩ [⟨1, c, 0, 0⟩]) := by
  go_enter Try.func38, Try.ntmps38
  go_wp2_with (go_at_call 39; refine (from_any _ _ _ _).mono ?_; rintro e w' ⟨rfl, rfl⟩)
  go_region
  go_wp2
  refine bodyPost_ret (v := .tuple #[.agg #[.int .u8 s, .int .i64 (wt), .int .i64 c], .slice (some ⟨w.heap.size + 1 + 1 + 1 + 1, 0, none⟩) 1 1]) (by simp [results, Try.results38, go_sem]) rfl ⟨_, rfl, ?_, ?_⟩
  · exact Outs.new (by simp) (by omega) (by rfl) (by rfl)
  · repeat (first | exact Below.refl _ _ | refine Below.al _ (by simp; try omega) ?_ | refine Below.drew ?_)

set_option maxHeartbeats 2000000 in
theorem comp_3 (wt c : Int) (s ic t : Int) (w : World) : Calls Try.prog 38 #[.agg #[.int .u8 s, .int .i64 wt, .int .i64 c], .agg #[.int .u8 3, .int .i64 ic, .int .u8 t]] w (RetMO w ⟨6, 0, c⟩ [⟨4, 0, 9, 5000⟩]) := by
  go_enter Try.func38, Try.ntmps38
  go_wp2_with (go_at_call 39; refine (from_any _ _ _ _).mono ?_; rintro e w' ⟨rfl, rfl⟩)
  refine bodyPost_ret (v := .tuple #[.agg #[.int .u8 6, .int .i64 (0), .int .i64 c], .slice (some ⟨w.heap.size + 1 + 1 + 1 + 1, 0, none⟩) 1 1]) (by simp [results, Try.results38, go_sem]) rfl ⟨_, rfl, ?_, ?_⟩
  · exact Outs.new (by simp) (by omega) (by rfl) (by rfl)
  · repeat (first | exact Below.refl _ _ | refine Below.al _ (by simp; try omega) ?_ | refine Below.drew ?_)

set_option maxHeartbeats 2000000 in
theorem comp_7a (wt c : Int) (s ic : Int) (h0 : 0 ≤ wt) (h1 : wt ≤ 4000) (h2 : 2 * wt ≤ 4000) (w : World) : Calls Try.prog 38 #[.agg #[.int .u8 s, .int .i64 wt, .int .i64 c], .agg #[.int .u8 5, .int .i64 ic, .int .u8 7]] w (RetMO w ⟨s, 2 * wt, c⟩ [⟨1, c, 0, 0⟩, ⟨4, 0, 7, 2 * wt⟩]) := by
  go_enter Try.func38, Try.ntmps38
  go_wp2_with (go_at_call 39; refine (from_any _ _ _ _).mono ?_; rintro e w' ⟨rfl, rfl⟩)
  go_region
  go_wp2
  refine bodyPost_ret (v := .tuple #[.agg #[.int .u8 s, .int .i64 (2 * wt), .int .i64 c], .slice (some ⟨w.heap.size + 1 + 1 + 1 + 1, 0, none⟩) 2 2]) (by simp [results, Try.results38, go_sem]) rfl ⟨_, rfl, ?_, ?_⟩
  · exact Outs.new (by simp) (by omega) (by rfl) (by rfl)
  · repeat (first | exact Below.refl _ _ | refine Below.al _ (by simp; try omega) ?_ | refine Below.drew ?_)

set_option maxHeartbeats 2000000 in
theorem comp_7b (wt c : Int) (s ic : Int) (h0 : 0 ≤ wt) (h1 : wt ≤ 4000) (h2 : 4000 < 2 * wt) (w : World) : Calls Try.prog 38 #[.agg #[.int .u8 s, .int .i64 wt, .int .i64 c], .agg #[.int .u8 5, .int .i64 ic, .int .u8 7]] w (RetMO w ⟨s, 4000, c⟩ [⟨1, c, 0, 0⟩, ⟨4, 0, 7, 4000⟩]) := by
  go_enter Try.func38, Try.ntmps38
  go_wp2_with (go_at_call 39; refine (from_any _ _ _ _).mono ?_; rintro e w' ⟨rfl, rfl⟩)
  go_region
  go_wp2
  refine bodyPost_ret (v := .tuple #[.agg #[.int .u8 s, .int .i64 (4000), .int .i64 c], .slice (some ⟨w.heap.size + 1 + 1 + 1 + 1, 0, none⟩) 2 2]) (by simp [results, Try.results38, go_sem]) rfl ⟨_, rfl, ?_, ?_⟩
  · exact Outs.new (by simp) (by omega) (by rfl) (by rfl)
  · repeat (first | exact Below.refl _ _ | refine Below.al _ (by simp; try omega) ?_ | refine Below.drew ?_)

set_option maxHeartbeats 2000000 in
theorem comp_8 (wt c : Int) (s ic : Int) (w : World) : Calls Try.prog 38 #[.agg #[.int .u8 s, .int .i64 wt, .int .i64 c], .agg #[.int .u8 5, .int .i64 ic, .int .u8 8]] w (RetMO w ⟨7, 0, c⟩ [⟨5, 0, 0, 0⟩, ⟨7, 0, 0, 0⟩]) := by
  go_enter Try.func38, Try.ntmps38
  go_wp2_with (go_at_call 39; refine (from_any _ _ _ _).mono ?_; rintro e w' ⟨rfl, rfl⟩)
  refine bodyPost_ret (v := .tuple #[.agg #[.int .u8 7, .int .i64 (0), .int .i64 c], .slice (some ⟨w.heap.size + 1 + 1 + 1 + 1, 0, none⟩) 2 2]) (by simp [results, Try.results38, go_sem]) rfl ⟨_, rfl, ?_, ?_⟩
  · exact Outs.new (by simp) (by omega) (by rfl) (by rfl)
  · repeat (first | exact Below.refl _ _ | refine Below.al _ (by simp; try omega) ?_ | refine Below.drew ?_)

set_option maxHeartbeats 2000000 in
theorem comp_t (wt c : Int) (s ic t : Int) (h7 : (t == 7) = false) (h8 : (t == 8) = false) (w : World) : Calls Try.prog 38 #[.agg #[.int .u8 s, .int .i64 wt, .int .i64 c], .agg #[.int .u8 5, .int .i64 ic, .int .u8 t]] w (RetMO w ⟨s, wt, c⟩ []) := by
  go_enter Try.func38, Try.ntmps38
  go_wp2_with (go_at_call 39; refine (from_any _ _ _ _).mono ?_; rintro e w' ⟨rfl, rfl⟩)
  refine bodyPost_ret (v := .tuple #[.agg #[.int .u8 s, .int .i64 (wt), .int .i64 c], .slice none 0 0]) (by simp [results, Try.results38, go_sem]) rfl ⟨_, rfl, ?_, ?_⟩
  · exact Outs.none_ _ _
  · repeat (first | exact Below.refl _ _ | refine Below.al _ (by simp; try omega) ?_ | refine Below.drew ?_)

set_option maxHeartbeats 2000000 in
theorem comp_o (wt c : Int) (s ic t : Int) (k : Int) (k1 : (k == 1) = false) (k3 : (k == 3) = false) (k5 : (k == 5) = false) (w : World) : Calls Try.prog 38 #[.agg #[.int .u8 s, .int .i64 wt, .int .i64 c], .agg #[.int .u8 k, .int .i64 ic, .int .u8 t]] w (RetMO w ⟨s, wt, c⟩ []) := by
  go_enter Try.func38, Try.ntmps38
  go_wp2_with (go_at_call 39; refine (from_any _ _ _ _).mono ?_; rintro e w' ⟨rfl, rfl⟩)
  refine bodyPost_ret (v := .tuple #[.agg #[.int .u8 s, .int .i64 (wt), .int .i64 c], .slice none 0 0]) (by simp [results, Try.results38, go_sem]) rfl ⟨_, rfl, ?_, ?_⟩
  · exact Outs.none_ _ _
  · repeat (first | exact Below.refl _ _ | refine Below.al _ (by simp; try omega) ?_ | refine Below.drew ?_)


def procS (m : Mach) (i : Inp) : Mach × List Out :=
  if i.kind = 1 then (m, [⟨1, m.code, 0, 0⟩]) else if i.kind = 4 then answS m i.code else (m, [])
def compS (m : Mach) (i : Inp) : Mach × List Out :=
  if i.kind = 1 then (m, [⟨1, m.code, 0, 0⟩]) else if i.kind = 3 then (⟨6, 0, m.code⟩, [⟨4, 0, 9, 5000⟩]) else if i.kind = 5 then firedS m i.timer else (m, [])
theorem proc_any (s wt c k ic t : Int) (w : World) : Calls Try.prog 37 #[.agg #[.int .u8 s, .int .i64 wt, .int .i64 c], .agg #[.int .u8 k, .int .i64 ic, .int .u8 t]] w (RetMO w (procS ⟨s, wt, c⟩ ⟨k, ic, t⟩).1 (procS ⟨s, wt, c⟩ ⟨k, ic, t⟩).2) := by
  by_cases k1 : k = 1
  · subst k1; simpa [procS] using proc_1 wt c s ic t w
  by_cases k4 : k = 4
  · subst k4
    by_cases h1 : 101 ≤ ic ∧ ic ≤ 199
    · simpa [procS, answS, h1] using proc_a wt c s ic t h1 w
    by_cases h2 : 200 ≤ ic ∧ ic ≤ 299
    · simpa [procS, answS, h1, h2] using proc_b wt c s ic t h2 w
    by_cases h3 : 300 ≤ ic ∧ ic ≤ 699
    · simpa [procS, answS, h1, h2, h3] using proc_c wt c s ic t h3 w
    simpa [procS, answS, h1, h2, h3] using proc_d wt c s ic t (by omega) w
  simpa [procS, k1, k4] using proc_o wt c s ic t k (by simp [k1]) (by simp [k4]) w
theorem comp_any (s wt c k ic t : Int) (w : World) (h0 : 0 ≤ wt) (h1 : wt ≤ 4000) : Calls Try.prog 38 #[.agg #[.int .u8 s, .int .i64 wt, .int .i64 c], .agg #[.int .u8 k, .int .i64 ic, .int .u8 t]] w (RetMO w (compS ⟨s, wt, c⟩ ⟨k, ic, t⟩).1 (compS ⟨s, wt, c⟩ ⟨k, ic, t⟩).2) := by
  by_cases k1 : k = 1
  · subst k1; simpa [compS] using comp_1 wt c s ic t w
  by_cases k3 : k = 3
  · subst k3; simpa [compS] using comp_3 wt c s ic t w
  by_cases k5 : k = 5
  · subst k5
    by_cases t7 : t = 7
    · subst t7
      by_cases h2 : 2 * wt ≤ 4000
      · have e : min (2 * wt) 4000 = 2 * wt := by omega
        simpa [compS, firedS, e] using comp_7a wt c s ic h0 h1 h2 w
      · have e : min (2 * wt) 4000 = 4000 := by omega
        simpa [compS, firedS, e] using comp_7b wt c s ic h0 h1 (by omega) w
    by_cases t8 : t = 8
    · subst t8; simpa [compS, firedS] using comp_8 wt c s ic w
    simpa [compS, firedS, t7, t8] using comp_t wt c s ic t (by simp [t7]) (by simp [t8]) w
  simpa [compS, k1, k3, k5] using comp_o wt c s ic t k (by simp [k1]) (by simp [k3]) (by simp [k5]) w

end Go.Proofs.Ytgjhnaionalbpaa
