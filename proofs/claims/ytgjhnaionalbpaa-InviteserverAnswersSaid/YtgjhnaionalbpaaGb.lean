/- The reference's Step. -/
import Derived.Test.YtgjhnaionalbpaaG
namespace Go.Proofs.Ytgjhnaionalbpaa
open Go.RowKit
set_option maxHeartbeats 2000000 in
theorem rstep_no (wt c : Int) (s k ic t : Int) (hm : mayB s wt c = false) (w : World) : Calls Try.prog 31 #[.agg #[.int .u8 s, .int .i64 wt, .int .i64 c], .agg #[.int .u8 k, .int .i64 ic, .int .u8 t]] w (RetMO w ⟨0, 0, 0⟩ []) := by
  go_enter Try.func31, Try.ntmps31
  go_wp2_with fail
  refine (rmay_any _ _ _ _).mono ?_
  rintro e w1 ⟨rfl, hb⟩
  obtain ⟨hc, hf⟩ := bcell hb
  have hz := hb.size
  simp only [World.size_alloc] at hz hc hf
  have hz1 : w.heap.size + 1 + 1 < w1.heap.size := by omega
  have HB := Lib.hid hb; clear hb hz
  go_wp2_with (go_at_call 39; refine (from_any _ _ _ _).mono ?_; rintro e w' ⟨rfl, rfl⟩)
  refine bodyPost_ret (v := .tuple #[.agg #[.int .u8 0, .int .i64 (0), .int .i64 0], .slice none 0 0]) (by simp [results, Try.results31, go_sem, hc, hz1]) rfl ⟨_, rfl, ?_, ?_⟩
  · exact Outs.none_ _ _
  · have hb := HB.out; simp only [World.size_alloc] at hb
    repeat (first | refine Below.al _ (by simp; try omega) ?_ | refine Below.drew ?_ | refine Below.setCell ?_ (by simp; try omega) _)
    refine Below.trans ?_ (hb.mono (by omega))
    repeat (first | exact Below.refl _ _ | refine Below.al _ (by simp; try omega) ?_ | refine Below.drew ?_)

set_option maxHeartbeats 2000000 in
theorem rstep_f3 (wt c : Int) (ic t : Int) (hm : mayB 3 wt c = true) (w : World) : Calls Try.prog 31 #[.agg #[.int .u8 3, .int .i64 wt, .int .i64 c], .agg #[.int .u8 6, .int .i64 ic, .int .u8 t]] w (RetMO w ⟨7, 0, c⟩ [⟨6, 0, 0, 0⟩, ⟨7, 0, 0, 0⟩]) := by
  go_enter Try.func31, Try.ntmps31
  go_wp2_with fail
  refine (rmay_any _ _ _ _).mono ?_
  rintro e w1 ⟨rfl, hb⟩
  obtain ⟨hc, hf⟩ := bcell hb
  have hz := hb.size
  simp only [World.size_alloc] at hz hc hf
  have hz1 : w.heap.size + 1 + 1 < w1.heap.size := by omega
  have HB := Lib.hid hb; clear hb hz
  go_wp2_with (go_at_call 39; refine (from_any _ _ _ _).mono ?_; rintro e w' ⟨rfl, rfl⟩)
  refine bodyPost_ret (v := .tuple #[.agg #[.int .u8 7, .int .i64 (0), .int .i64 c], .slice (some ⟨w1.heap.size, 0, none⟩) 2 2]) (by simp [results, Try.results31, go_sem, hc, hz1]) rfl ⟨_, rfl, ?_, ?_⟩
  · exact Outs.new (by simp) (by omega) (by rfl) (by rfl)
  · have hb := HB.out; simp only [World.size_alloc] at hb
    repeat (first | refine Below.al _ (by simp; try omega) ?_ | refine Below.drew ?_ | refine Below.setCell ?_ (by simp; try omega) _)
    refine Below.trans ?_ (hb.mono (by omega))
    repeat (first | exact Below.refl _ _ | refine Below.al _ (by simp; try omega) ?_ | refine Below.drew ?_)

set_option maxHeartbeats 2000000 in
theorem rstep_f5 (wt c : Int) (ic t : Int) (hm : mayB 5 wt c = true) (w : World) : Calls Try.prog 31 #[.agg #[.int .u8 5, .int .i64 wt, .int .i64 c], .agg #[.int .u8 6, .int .i64 ic, .int .u8 t]] w (RetMO w ⟨7, 0, c⟩ [⟨6, 0, 0, 0⟩, ⟨7, 0, 0, 0⟩]) := by
  go_enter Try.func31, Try.ntmps31
  go_wp2_with fail
  refine (rmay_any _ _ _ _).mono ?_
  rintro e w1 ⟨rfl, hb⟩
  obtain ⟨hc, hf⟩ := bcell hb
  have hz := hb.size
  simp only [World.size_alloc] at hz hc hf
  have hz1 : w.heap.size + 1 + 1 < w1.heap.size := by omega
  have HB := Lib.hid hb; clear hb hz
  go_wp2_with (go_at_call 39; refine (from_any _ _ _ _).mono ?_; rintro e w' ⟨rfl, rfl⟩)
  refine bodyPost_ret (v := .tuple #[.agg #[.int .u8 7, .int .i64 (0), .int .i64 c], .slice (some ⟨w1.heap.size, 0, none⟩) 2 2]) (by simp [results, Try.results31, go_sem, hc, hz1]) rfl ⟨_, rfl, ?_, ?_⟩
  · exact Outs.new (by simp) (by omega) (by rfl) (by rfl)
  · have hb := HB.out; simp only [World.size_alloc] at hb
    repeat (first | refine Below.al _ (by simp; try omega) ?_ | refine Below.drew ?_ | refine Below.setCell ?_ (by simp; try omega) _)
    refine Below.trans ?_ (hb.mono (by omega))
    repeat (first | exact Below.refl _ _ | refine Below.al _ (by simp; try omega) ?_ | refine Below.drew ?_)

set_option maxHeartbeats 2000000 in
theorem rstep_4a (wt c : Int) (ic t : Int) (hm : mayB 4 wt c = true) (h : 200 ≤ ic ∧ ic ≤ 299) (w : World) : Calls Try.prog 31 #[.agg #[.int .u8 4, .int .i64 wt, .int .i64 c], .agg #[.int .u8 4, .int .i64 ic, .int .u8 t]] w (RetMO w ⟨4, 0, ic⟩ [⟨1, ic, 0, 0⟩]) := by
  have f200 : fromB ic 200 299 = true := by simp [fromB]; omega
  clear h
  go_enter Try.func31, Try.ntmps31
  go_wp2_with fail
  refine (rmay_any _ _ _ _).mono ?_
  rintro e w1 ⟨rfl, hb⟩
  obtain ⟨hc, hf⟩ := bcell hb
  have hz := hb.size
  simp only [World.size_alloc] at hz hc hf
  have hz1 : w.heap.size + 1 + 1 < w1.heap.size := by omega
  have HB := Lib.hid hb; clear hb hz
  go_wp2_with (go_at_call 39; refine (from_any _ _ _ _).mono ?_; rintro e w' ⟨rfl, rfl⟩)
  have e1 : w1.cell? ⟨w.heap.size + 1, 1, none⟩ = some (.int .i64 ic) := (hc _ _ (by omega)).trans (by go_simp)
  have e2 : w.heap.size + 1 < w1.heap.size := by omega
  go_region
  go_wp2
  refine bodyPost_ret (v := .tuple #[.agg #[.int .u8 4, .int .i64 (0), .int .i64 ic], .slice (some ⟨w1.heap.size, 0, none⟩) 1 1]) (by simp [results, Try.results31, go_sem, hc, hz1]) rfl ⟨_, rfl, ?_, ?_⟩
  · exact Outs.new (by simp) (by omega) (by rfl) (by rfl)
  · have hb := HB.out; simp only [World.size_alloc] at hb
    repeat (first | refine Below.al _ (by simp; try omega) ?_ | refine Below.drew ?_ | refine Below.setCell ?_ (by simp; try omega) _)
    refine Below.trans ?_ (hb.mono (by omega))
    repeat (first | exact Below.refl _ _ | refine Below.al _ (by simp; try omega) ?_ | refine Below.drew ?_)

set_option maxHeartbeats 2000000 in
theorem rstep_4b (wt c : Int) (ic t : Int) (hm : mayB 4 wt c = true) (h : ¬ (200 ≤ ic ∧ ic ≤ 299)) (w : World) : Calls Try.prog 31 #[.agg #[.int .u8 4, .int .i64 wt, .int .i64 c], .agg #[.int .u8 4, .int .i64 ic, .int .u8 t]] w (RetMO w ⟨4, wt, c⟩ []) := by
  have f200 : fromB ic 200 299 = false := by simp [fromB]; omega
  clear h
  go_enter Try.func31, Try.ntmps31
  go_wp2_with fail
  refine (rmay_any _ _ _ _).mono ?_
  rintro e w1 ⟨rfl, hb⟩
  obtain ⟨hc, hf⟩ := bcell hb
  have hz := hb.size
  simp only [World.size_alloc] at hz hc hf
  have hz1 : w.heap.size + 1 + 1 < w1.heap.size := by omega
  have HB := Lib.hid hb; clear hb hz
  go_wp2_with (go_at_call 39; refine (from_any _ _ _ _).mono ?_; rintro e w' ⟨rfl, rfl⟩)
  refine bodyPost_ret (v := .tuple #[.agg #[.int .u8 4, .int .i64 (wt), .int .i64 c], .slice none 0 0]) (by simp [results, Try.results31, go_sem, hc, hz1]) rfl ⟨_, rfl, ?_, ?_⟩
  · exact Outs.none_ _ _
  · have hb := HB.out; simp only [World.size_alloc] at hb
    repeat (first | refine Below.al _ (by simp; try omega) ?_ | refine Below.drew ?_ | refine Below.setCell ?_ (by simp; try omega) _)
    refine Below.trans ?_ (hb.mono (by omega))
    repeat (first | exact Below.refl _ _ | refine Below.al _ (by simp; try omega) ?_ | refine Below.drew ?_)

set_option maxHeartbeats 2000000 in
theorem rstep_4t (wt c : Int) (ic : Int) (hm : mayB 4 wt c = true) (w : World) : Calls Try.prog 31 #[.agg #[.int .u8 4, .int .i64 wt, .int .i64 c], .agg #[.int .u8 5, .int .i64 ic, .int .u8 12]] w (RetMO w ⟨7, 0, c⟩ [⟨7, 0, 0, 0⟩]) := by
  go_enter Try.func31, Try.ntmps31
  go_wp2_with fail
  refine (rmay_any _ _ _ _).mono ?_
  rintro e w1 ⟨rfl, hb⟩
  obtain ⟨hc, hf⟩ := bcell hb
  have hz := hb.size
  simp only [World.size_alloc] at hz hc hf
  have hz1 : w.heap.size + 1 + 1 < w1.heap.size := by omega
  have HB := Lib.hid hb; clear hb hz
  go_wp2_with (go_at_call 39; refine (from_any _ _ _ _).mono ?_; rintro e w' ⟨rfl, rfl⟩)
  refine bodyPost_ret (v := .tuple #[.agg #[.int .u8 7, .int .i64 (0), .int .i64 c], .slice (some ⟨w1.heap.size, 0, none⟩) 1 1]) (by simp [results, Try.results31, go_sem, hc, hz1]) rfl ⟨_, rfl, ?_, ?_⟩
  · exact Outs.new (by simp) (by omega) (by rfl) (by rfl)
  · have hb := HB.out; simp only [World.size_alloc] at hb
    repeat (first | refine Below.al _ (by simp; try omega) ?_ | refine Below.drew ?_ | refine Below.setCell ?_ (by simp; try omega) _)
    refine Below.trans ?_ (hb.mono (by omega))
    repeat (first | exact Below.refl _ _ | refine Below.al _ (by simp; try omega) ?_ | refine Below.drew ?_)

set_option maxHeartbeats 2000000 in
theorem rstep_4u (wt c : Int) (ic t : Int) (hm : mayB 4 wt c = true) (h : (t == 12) = false) (w : World) : Calls Try.prog 31 #[.agg #[.int .u8 4, .int .i64 wt, .int .i64 c], .agg #[.int .u8 5, .int .i64 ic, .int .u8 t]] w (RetMO w ⟨4, wt, c⟩ []) := by
  go_enter Try.func31, Try.ntmps31
  go_wp2_with fail
  refine (rmay_any _ _ _ _).mono ?_
  rintro e w1 ⟨rfl, hb⟩
  obtain ⟨hc, hf⟩ := bcell hb
  have hz := hb.size
  simp only [World.size_alloc] at hz hc hf
  have hz1 : w.heap.size + 1 + 1 < w1.heap.size := by omega
  have HB := Lib.hid hb; clear hb hz
  go_wp2_with (go_at_call 39; refine (from_any _ _ _ _).mono ?_; rintro e w' ⟨rfl, rfl⟩)
  refine bodyPost_ret (v := .tuple #[.agg #[.int .u8 4, .int .i64 (wt), .int .i64 c], .slice none 0 0]) (by simp [results, Try.results31, go_sem, hc, hz1]) rfl ⟨_, rfl, ?_, ?_⟩
  · exact Outs.none_ _ _
  · have hb := HB.out; simp only [World.size_alloc] at hb
    repeat (first | refine Below.al _ (by simp; try omega) ?_ | refine Below.drew ?_ | refine Below.setCell ?_ (by simp; try omega) _)
    refine Below.trans ?_ (hb.mono (by omega))
    repeat (first | exact Below.refl _ _ | refine Below.al _ (by simp; try omega) ?_ | refine Below.drew ?_)

set_option maxHeartbeats 2000000 in
theorem rstep_4o (wt c : Int) (k ic t : Int) (hm : mayB 4 wt c = true) (k4 : (k == 4) = false) (k5 : (k == 5) = false) (k6 : (k == 6) = false) (w : World) : Calls Try.prog 31 #[.agg #[.int .u8 4, .int .i64 wt, .int .i64 c], .agg #[.int .u8 k, .int .i64 ic, .int .u8 t]] w (RetMO w ⟨4, wt, c⟩ []) := by
  go_enter Try.func31, Try.ntmps31
  go_wp2_with fail
  refine (rmay_any _ _ _ _).mono ?_
  rintro e w1 ⟨rfl, hb⟩
  obtain ⟨hc, hf⟩ := bcell hb
  have hz := hb.size
  simp only [World.size_alloc] at hz hc hf
  have hz1 : w.heap.size + 1 + 1 < w1.heap.size := by omega
  have HB := Lib.hid hb; clear hb hz
  go_wp2_with (go_at_call 39; refine (from_any _ _ _ _).mono ?_; rintro e w' ⟨rfl, rfl⟩)
  refine bodyPost_ret (v := .tuple #[.agg #[.int .u8 4, .int .i64 (wt), .int .i64 c], .slice none 0 0]) (by simp [results, Try.results31, go_sem, hc, hz1]) rfl ⟨_, rfl, ?_, ?_⟩
  · exact Outs.none_ _ _
  · have hb := HB.out; simp only [World.size_alloc] at hb
    repeat (first | refine Below.al _ (by simp; try omega) ?_ | refine Below.drew ?_ | refine Below.setCell ?_ (by simp; try omega) _)
    refine Below.trans ?_ (hb.mono (by omega))
    repeat (first | exact Below.refl _ _ | refine Below.al _ (by simp; try omega) ?_ | refine Below.drew ?_)

set_option maxHeartbeats 2000000 in
theorem rstep_4f (wt c : Int) (ic t : Int) (hm : mayB 4 wt c = true) (w : World) : Calls Try.prog 31 #[.agg #[.int .u8 4, .int .i64 wt, .int .i64 c], .agg #[.int .u8 6, .int .i64 ic, .int .u8 t]] w (RetMO w ⟨4, wt, c⟩ []) := by
  go_enter Try.func31, Try.ntmps31
  go_wp2_with fail
  refine (rmay_any _ _ _ _).mono ?_
  rintro e w1 ⟨rfl, hb⟩
  obtain ⟨hc, hf⟩ := bcell hb
  have hz := hb.size
  simp only [World.size_alloc] at hz hc hf
  have hz1 : w.heap.size + 1 + 1 < w1.heap.size := by omega
  have HB := Lib.hid hb; clear hb hz
  go_wp2_with (go_at_call 39; refine (from_any _ _ _ _).mono ?_; rintro e w' ⟨rfl, rfl⟩)
  refine bodyPost_ret (v := .tuple #[.agg #[.int .u8 4, .int .i64 (wt), .int .i64 c], .slice none 0 0]) (by simp [results, Try.results31, go_sem, hc, hz1]) rfl ⟨_, rfl, ?_, ?_⟩
  · exact Outs.none_ _ _
  · have hb := HB.out; simp only [World.size_alloc] at hb
    repeat (first | refine Below.al _ (by simp; try omega) ?_ | refine Below.drew ?_ | refine Below.setCell ?_ (by simp; try omega) _)
    refine Below.trans ?_ (hb.mono (by omega))
    repeat (first | exact Below.refl _ _ | refine Below.al _ (by simp; try omega) ?_ | refine Below.drew ?_)

set_option maxHeartbeats 2000000 in
theorem rstep_6t (wt c : Int) (ic : Int) (hm : mayB 6 wt c = true) (w : World) : Calls Try.prog 31 #[.agg #[.int .u8 6, .int .i64 wt, .int .i64 c], .agg #[.int .u8 5, .int .i64 ic, .int .u8 9]] w (RetMO w ⟨7, 0, c⟩ [⟨7, 0, 0, 0⟩]) := by
  go_enter Try.func31, Try.ntmps31
  go_wp2_with fail
  refine (rmay_any _ _ _ _).mono ?_
  rintro e w1 ⟨rfl, hb⟩
  obtain ⟨hc, hf⟩ := bcell hb
  have hz := hb.size
  simp only [World.size_alloc] at hz hc hf
  have hz1 : w.heap.size + 1 + 1 < w1.heap.size := by omega
  have HB := Lib.hid hb; clear hb hz
  go_wp2_with (go_at_call 39; refine (from_any _ _ _ _).mono ?_; rintro e w' ⟨rfl, rfl⟩)
  refine bodyPost_ret (v := .tuple #[.agg #[.int .u8 7, .int .i64 (0), .int .i64 c], .slice (some ⟨w1.heap.size, 0, none⟩) 1 1]) (by simp [results, Try.results31, go_sem, hc, hz1]) rfl ⟨_, rfl, ?_, ?_⟩
  · exact Outs.new (by simp) (by omega) (by rfl) (by rfl)
  · have hb := HB.out; simp only [World.size_alloc] at hb
    repeat (first | refine Below.al _ (by simp; try omega) ?_ | refine Below.drew ?_ | refine Below.setCell ?_ (by simp; try omega) _)
    refine Below.trans ?_ (hb.mono (by omega))
    repeat (first | exact Below.refl _ _ | refine Below.al _ (by simp; try omega) ?_ | refine Below.drew ?_)

set_option maxHeartbeats 2000000 in
theorem rstep_6u (wt c : Int) (ic t : Int) (hm : mayB 6 wt c = true) (h : (t == 9) = false) (w : World) : Calls Try.prog 31 #[.agg #[.int .u8 6, .int .i64 wt, .int .i64 c], .agg #[.int .u8 5, .int .i64 ic, .int .u8 t]] w (RetMO w ⟨6, wt, c⟩ []) := by
  go_enter Try.func31, Try.ntmps31
  go_wp2_with fail
  refine (rmay_any _ _ _ _).mono ?_
  rintro e w1 ⟨rfl, hb⟩
  obtain ⟨hc, hf⟩ := bcell hb
  have hz := hb.size
  simp only [World.size_alloc] at hz hc hf
  have hz1 : w.heap.size + 1 + 1 < w1.heap.size := by omega
  have HB := Lib.hid hb; clear hb hz
  go_wp2_with (go_at_call 39; refine (from_any _ _ _ _).mono ?_; rintro e w' ⟨rfl, rfl⟩)
  refine bodyPost_ret (v := .tuple #[.agg #[.int .u8 6, .int .i64 (wt), .int .i64 c], .slice none 0 0]) (by simp [results, Try.results31, go_sem, hc, hz1]) rfl ⟨_, rfl, ?_, ?_⟩
  · exact Outs.none_ _ _
  · have hb := HB.out; simp only [World.size_alloc] at hb
    repeat (first | refine Below.al _ (by simp; try omega) ?_ | refine Below.drew ?_ | refine Below.setCell ?_ (by simp; try omega) _)
    refine Below.trans ?_ (hb.mono (by omega))
    repeat (first | exact Below.refl _ _ | refine Below.al _ (by simp; try omega) ?_ | refine Below.drew ?_)

set_option maxHeartbeats 2000000 in
theorem rstep_6o (wt c : Int) (k ic t : Int) (hm : mayB 6 wt c = true) (k5 : (k == 5) = false) (k6 : (k == 6) = false) (w : World) : Calls Try.prog 31 #[.agg #[.int .u8 6, .int .i64 wt, .int .i64 c], .agg #[.int .u8 k, .int .i64 ic, .int .u8 t]] w (RetMO w ⟨6, wt, c⟩ []) := by
  go_enter Try.func31, Try.ntmps31
  go_wp2_with fail
  refine (rmay_any _ _ _ _).mono ?_
  rintro e w1 ⟨rfl, hb⟩
  obtain ⟨hc, hf⟩ := bcell hb
  have hz := hb.size
  simp only [World.size_alloc] at hz hc hf
  have hz1 : w.heap.size + 1 + 1 < w1.heap.size := by omega
  have HB := Lib.hid hb; clear hb hz
  go_wp2_with (go_at_call 39; refine (from_any _ _ _ _).mono ?_; rintro e w' ⟨rfl, rfl⟩)
  refine bodyPost_ret (v := .tuple #[.agg #[.int .u8 6, .int .i64 (wt), .int .i64 c], .slice none 0 0]) (by simp [results, Try.results31, go_sem, hc, hz1]) rfl ⟨_, rfl, ?_, ?_⟩
  · exact Outs.none_ _ _
  · have hb := HB.out; simp only [World.size_alloc] at hb
    repeat (first | refine Below.al _ (by simp; try omega) ?_ | refine Below.drew ?_ | refine Below.setCell ?_ (by simp; try omega) _)
    refine Below.trans ?_ (hb.mono (by omega))
    repeat (first | exact Below.refl _ _ | refine Below.al _ (by simp; try omega) ?_ | refine Below.drew ?_)

set_option maxHeartbeats 2000000 in
theorem rstep_6f (wt c : Int) (ic t : Int) (hm : mayB 6 wt c = true) (w : World) : Calls Try.prog 31 #[.agg #[.int .u8 6, .int .i64 wt, .int .i64 c], .agg #[.int .u8 6, .int .i64 ic, .int .u8 t]] w (RetMO w ⟨6, wt, c⟩ []) := by
  go_enter Try.func31, Try.ntmps31
  go_wp2_with fail
  refine (rmay_any _ _ _ _).mono ?_
  rintro e w1 ⟨rfl, hb⟩
  obtain ⟨hc, hf⟩ := bcell hb
  have hz := hb.size
  simp only [World.size_alloc] at hz hc hf
  have hz1 : w.heap.size + 1 + 1 < w1.heap.size := by omega
  have HB := Lib.hid hb; clear hb hz
  go_wp2_with (go_at_call 39; refine (from_any _ _ _ _).mono ?_; rintro e w' ⟨rfl, rfl⟩)
  refine bodyPost_ret (v := .tuple #[.agg #[.int .u8 6, .int .i64 (wt), .int .i64 c], .slice none 0 0]) (by simp [results, Try.results31, go_sem, hc, hz1]) rfl ⟨_, rfl, ?_, ?_⟩
  · exact Outs.none_ _ _
  · have hb := HB.out; simp only [World.size_alloc] at hb
    repeat (first | refine Below.al _ (by simp; try omega) ?_ | refine Below.drew ?_ | refine Below.setCell ?_ (by simp; try omega) _)
    refine Below.trans ?_ (hb.mono (by omega))
    repeat (first | exact Below.refl _ _ | refine Below.al _ (by simp; try omega) ?_ | refine Below.drew ?_)

set_option maxHeartbeats 2000000 in
theorem rstep_o (wt c : Int) (s k ic t : Int) (hm : mayB s wt c = true) (s3 : (s == 3) = false) (s4 : (s == 4) = false) (s5 : (s == 5) = false) (s6 : (s == 6) = false) (k6 : (k == 6) = false) (w : World) : Calls Try.prog 31 #[.agg #[.int .u8 s, .int .i64 wt, .int .i64 c], .agg #[.int .u8 k, .int .i64 ic, .int .u8 t]] w (RetMO w ⟨s, wt, c⟩ []) := by
  go_enter Try.func31, Try.ntmps31
  go_wp2_with fail
  refine (rmay_any _ _ _ _).mono ?_
  rintro e w1 ⟨rfl, hb⟩
  obtain ⟨hc, hf⟩ := bcell hb
  have hz := hb.size
  simp only [World.size_alloc] at hz hc hf
  have hz1 : w.heap.size + 1 + 1 < w1.heap.size := by omega
  have HB := Lib.hid hb; clear hb hz
  go_wp2_with (go_at_call 39; refine (from_any _ _ _ _).mono ?_; rintro e w' ⟨rfl, rfl⟩)
  refine bodyPost_ret (v := .tuple #[.agg #[.int .u8 s, .int .i64 (wt), .int .i64 c], .slice none 0 0]) (by simp [results, Try.results31, go_sem, hc, hz1]) rfl ⟨_, rfl, ?_, ?_⟩
  · exact Outs.none_ _ _
  · have hb := HB.out; simp only [World.size_alloc] at hb
    repeat (first | refine Below.al _ (by simp; try omega) ?_ | refine Below.drew ?_ | refine Below.setCell ?_ (by simp; try omega) _)
    refine Below.trans ?_ (hb.mono (by omega))
    repeat (first | exact Below.refl _ _ | refine Below.al _ (by simp; try omega) ?_ | refine Below.drew ?_)

set_option maxHeartbeats 2000000 in
theorem rstep_of (wt c : Int) (s ic t : Int) (hm : mayB s wt c = true) (s3 : (s == 3) = false) (s4 : (s == 4) = false) (s5 : (s == 5) = false) (s6 : (s == 6) = false) (w : World) : Calls Try.prog 31 #[.agg #[.int .u8 s, .int .i64 wt, .int .i64 c], .agg #[.int .u8 6, .int .i64 ic, .int .u8 t]] w (RetMO w ⟨s, wt, c⟩ []) := by
  go_enter Try.func31, Try.ntmps31
  go_wp2_with fail
  refine (rmay_any _ _ _ _).mono ?_
  rintro e w1 ⟨rfl, hb⟩
  obtain ⟨hc, hf⟩ := bcell hb
  have hz := hb.size
  simp only [World.size_alloc] at hz hc hf
  have hz1 : w.heap.size + 1 + 1 < w1.heap.size := by omega
  have HB := Lib.hid hb; clear hb hz
  go_wp2_with (go_at_call 39; refine (from_any _ _ _ _).mono ?_; rintro e w' ⟨rfl, rfl⟩)
  refine bodyPost_ret (v := .tuple #[.agg #[.int .u8 s, .int .i64 (wt), .int .i64 c], .slice none 0 0]) (by simp [results, Try.results31, go_sem, hc, hz1]) rfl ⟨_, rfl, ?_, ?_⟩
  · exact Outs.none_ _ _
  · have hb := HB.out; simp only [World.size_alloc] at hb
    repeat (first | refine Below.al _ (by simp; try omega) ?_ | refine Below.drew ?_ | refine Below.setCell ?_ (by simp; try omega) _)
    refine Below.trans ?_ (hb.mono (by omega))
    repeat (first | exact Below.refl _ _ | refine Below.al _ (by simp; try omega) ?_ | refine Below.drew ?_)

set_option maxHeartbeats 2000000 in
theorem rstep_3 (wt c k ic t : Int) (w : World) (hm : mayB 3 wt c = true) (k6 : (k == 6) = false) : Calls Try.prog 31 #[.agg #[.int .u8 3, .int .i64 wt, .int .i64 c], .agg #[.int .u8 k, .int .i64 ic, .int .u8 t]] w (RetMO w (procS ⟨3, wt, c⟩ ⟨k, ic, t⟩).1 (procS ⟨3, wt, c⟩ ⟨k, ic, t⟩).2) := by
  generalize hr : procS ⟨3, wt, c⟩ ⟨k, ic, t⟩ = r
  obtain ⟨⟨a0, a1, a2⟩, l⟩ := r
  have HR := Lib.hid hr; clear hr
  go_enter Try.func31, Try.ntmps31
  go_wp2_with fail
  refine (rmay_any _ _ _ _).mono ?_
  rintro e w1 ⟨rfl, hb⟩
  obtain ⟨hc, hf⟩ := bcell hb
  have hz := hb.size
  simp only [World.size_alloc] at hz hc hf
  have hz1 : w.heap.size + 1 + 1 < w1.heap.size := by omega
  have HB := Lib.hid hb; clear hb hz
  go_wp2_with fail
  refine (proc_any _ _ _ _ _ _ _).mono ?_
  rw [HR.out]
  rintro e w2 ⟨v, rfl, hout, hb2⟩
  obtain ⟨hc2, hf2⟩ := bcell hb2
  have hz2 := hb2.size
  have HO := Lib.hid hout; clear hout; have HB2 := Lib.hid hb2; clear hb2
  have hz3 : w.heap.size + 1 + 1 < w2.heap.size := by omega
  go_wp2
  refine bodyPost_ret (v := .tuple #[.agg #[.int .u8 a0, .int .i64 a1, .int .i64 a2], v]) (by simp [results, Try.results31, go_sem, hc2, hz1, hc, hz2, hz3]) rfl ⟨v, rfl, ?_, ?_⟩
  · have ho := HO.out
    exact Outs.lower (((ho.setCell (by simp; try omega) _).setCell (by simp; try omega) _).setCell (by simp; try omega) _) (by omega)
  · have hb := HB.out; simp only [World.size_alloc] at hb
    have hb2 := HB2.out
    refine Below.setCell (Below.setCell (Below.setCell (Below.trans ?_ (hb2.mono (by omega))) (by simp; try omega) _) (by simp; try omega) _) (by simp; try omega) _
    repeat (first | refine Below.al _ (by simp; try omega) ?_ | refine Below.drew ?_)
    refine Below.trans ?_ (hb.mono (by omega))
    repeat (first | exact Below.refl _ _ | refine Below.al _ (by simp; try omega) ?_ | refine Below.drew ?_)

set_option maxHeartbeats 2000000 in
theorem rstep_5 (wt c k ic t : Int) (w : World) (hm : mayB 5 wt c = true) (k6 : (k == 6) = false) (h0 : 0 ≤ wt) (h1 : wt ≤ 4000) : Calls Try.prog 31 #[.agg #[.int .u8 5, .int .i64 wt, .int .i64 c], .agg #[.int .u8 k, .int .i64 ic, .int .u8 t]] w (RetMO w (compS ⟨5, wt, c⟩ ⟨k, ic, t⟩).1 (compS ⟨5, wt, c⟩ ⟨k, ic, t⟩).2) := by
  generalize hr : compS ⟨5, wt, c⟩ ⟨k, ic, t⟩ = r
  obtain ⟨⟨a0, a1, a2⟩, l⟩ := r
  have HR := Lib.hid hr; clear hr
  go_enter Try.func31, Try.ntmps31
  go_wp2_with fail
  refine (rmay_any _ _ _ _).mono ?_
  rintro e w1 ⟨rfl, hb⟩
  obtain ⟨hc, hf⟩ := bcell hb
  have hz := hb.size
  simp only [World.size_alloc] at hz hc hf
  have hz1 : w.heap.size + 1 + 1 < w1.heap.size := by omega
  have HB := Lib.hid hb; clear hb hz
  go_wp2_with fail
  refine (comp_any _ _ _ _ _ _ _ h0 h1).mono ?_
  rw [HR.out]
  rintro e w2 ⟨v, rfl, hout, hb2⟩
  obtain ⟨hc2, hf2⟩ := bcell hb2
  have hz2 := hb2.size
  have HO := Lib.hid hout; clear hout; have HB2 := Lib.hid hb2; clear hb2
  have hz3 : w.heap.size + 1 + 1 < w2.heap.size := by omega
  go_wp2
  refine bodyPost_ret (v := .tuple #[.agg #[.int .u8 a0, .int .i64 a1, .int .i64 a2], v]) (by simp [results, Try.results31, go_sem, hc2, hz1, hc, hz2, hz3]) rfl ⟨v, rfl, ?_, ?_⟩
  · have ho := HO.out
    exact Outs.lower (((ho.setCell (by simp; try omega) _).setCell (by simp; try omega) _).setCell (by simp; try omega) _) (by omega)
  · have hb := HB.out; simp only [World.size_alloc] at hb
    have hb2 := HB2.out
    refine Below.setCell (Below.setCell (Below.setCell (Below.trans ?_ (hb2.mono (by omega))) (by simp; try omega) _) (by simp; try omega) _) (by simp; try omega) _
    repeat (first | refine Below.al _ (by simp; try omega) ?_ | refine Below.drew ?_)
    refine Below.trans ?_ (hb.mono (by omega))
    repeat (first | exact Below.refl _ _ | refine Below.al _ (by simp; try omega) ?_ | refine Below.drew ?_)


theorem may_wait4 {wt c : Int} (h : mayB 4 wt c = true) : wt = 0 := by
  simp [mayB] at h; omega
theorem rstep_any (s wt c k ic t : Int) (w : World) : Calls Try.prog 31 #[.agg #[.int .u8 s, .int .i64 wt, .int .i64 c], .agg #[.int .u8 k, .int .i64 ic, .int .u8 t]] w (RetMO w (stepS ⟨s, wt, c⟩ ⟨k, ic, t⟩).1 (stepS ⟨s, wt, c⟩ ⟨k, ic, t⟩).2) := by
  by_cases hm0 : mayB s wt c = false
  · simpa [stepS, hm0] using rstep_no wt c s k ic t hm0 w
  have hm : mayB s wt c = true := by simpa using hm0
  by_cases a5 : s = 5
  · subst a5
    by_cases k6 : k = 6
    · subst k6; simpa [stepS, hm] using rstep_f5 wt c ic t hm w
    have hw := may_wait5 hm
    have h := rstep_5 wt c k ic t w hm (by simp [k6]) hw.1 hw.2
    by_cases k1 : k = 1
    · subst k1; simpa [stepS, compS, hm] using h
    by_cases k3 : k = 3
    · subst k3; simpa [stepS, compS, hm] using h
    by_cases k5 : k = 5
    · subst k5; simpa [stepS, compS, hm] using h
    simpa [stepS, compS, hm, k1, k3, k5, k6] using h
  by_cases a3 : s = 3
  · subst a3
    by_cases k6 : k = 6
    · subst k6; simpa [stepS, hm] using rstep_f3 wt c ic t hm w
    have h := rstep_3 wt c k ic t w hm (by simp [k6])
    by_cases k1 : k = 1
    · subst k1; simpa [stepS, procS, hm] using h
    by_cases k4 : k = 4
    · subst k4; simpa [stepS, procS, hm] using h
    simpa [stepS, procS, hm, k1, k4, k6] using h
  by_cases a4 : s = 4
  · subst a4
    obtain rfl := may_wait4 hm
    by_cases k4 : k = 4
    · subst k4
      by_cases hi : 200 ≤ ic ∧ ic ≤ 299
      · simpa [stepS, hm, hi] using rstep_4a 0 c ic t hm hi w
      · simpa [stepS, hm, hi] using rstep_4b 0 c ic t hm hi w
    by_cases k5 : k = 5
    · subst k5
      by_cases ht : t = 12
      · subst ht; simpa [stepS, hm] using rstep_4t 0 c ic hm w
      · simpa [stepS, hm, ht] using rstep_4u 0 c ic t hm (by simp [ht]) w
    by_cases k6 : k = 6
    · subst k6; simpa [stepS, hm] using rstep_4f 0 c ic t hm w
    simpa [stepS, hm, k4, k5] using rstep_4o 0 c k ic t hm (by simp [k4]) (by simp [k5]) (by simp [k6]) w
  by_cases a6 : s = 6
  · subst a6
    by_cases k5 : k = 5
    · subst k5
      by_cases ht : t = 9
      · subst ht; simpa [stepS, hm] using rstep_6t wt c ic hm w
      · simpa [stepS, hm, ht] using rstep_6u wt c ic t hm (by simp [ht]) w
    by_cases k6 : k = 6
    · subst k6; simpa [stepS, hm] using rstep_6f wt c ic t hm w
    simpa [stepS, hm, k5] using rstep_6o wt c k ic t hm (by simp [k5]) (by simp [k6]) w
  by_cases k6 : k = 6
  · subst k6; simpa [stepS, hm, a3, a4, a5, a6] using rstep_of wt c s ic t hm (by simp [a3]) (by simp [a4]) (by simp [a5]) (by simp [a6]) w
  simpa [stepS, hm, a3, a4, a5, a6] using rstep_o wt c s k ic t hm (by simp [a3]) (by simp [a4]) (by simp [a5]) (by simp [a6]) (by simp [k6]) w

end Go.Proofs.Ytgjhnaionalbpaa
