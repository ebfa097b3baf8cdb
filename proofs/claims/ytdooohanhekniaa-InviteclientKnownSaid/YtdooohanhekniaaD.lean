/- Contracts of ended and Step of the reference dialtoneref12. -/
import Derived.Test.YtdooohanhekniaaC
namespace Go.Proofs.Ytdooohanhekniaa
open Go.RowKit
theorem ncap1 : ¬ (281474976710656 < Builtin.nextslicecap 1 0 * Try.t40.bytes) := by decide +kernel
theorem ncap2 : ¬ (281474976710656 < Builtin.nextslicecap 2 1 * Try.t40.bytes) := by decide +kernel

set_option maxHeartbeats 1000000 in
theorem ended_nil (s wt c : Int) (w : World) : Calls Try.prog 34 #[.agg #[.int .u8 s, .int .i64 wt, .int .i64 c], .slice none 0 0] w (RetMO w ⟨7, 0, c⟩ [⟨7, 0, 0, 0⟩]) := by
  have hq := ncap1
  go_enter Try.func34, Try.ntmps34
  go_wp2
  go_region
  go_wp2
  refine bodyPost_ret (v := .tuple #[.agg #[.int .u8 7, .int .i64 0, .int .i64 c], .slice (some ⟨w.heap.size + 1 + 1 + 1, 0, none⟩) 1 ((Question.appendCap 1 0 40).cut (w.tape (w.drawn + 1) (Question.appendCap 1 0 40)))]) (by simp [results, Try.results34, go_sem]) rfl ⟨_, rfl, ?_, ?_⟩
  · exact Outs.grown (by simp) (by omega) (by rfl) (cap_ge _ _ _ _) (by rfl)
  · repeat (first | exact Below.refl _ _ | refine Below.al _ (by simp; try omega) ?_ | refine Below.drew ?_)

set_option maxHeartbeats 1000000 in
theorem ended_one (s wt c : Int) (w : World) (g : Nat) (k : Int) (hg : g < w.heap.size) (h0 : w.cell? ⟨g, 0, none⟩ = some (.int .u8 k)) (h1 : w.cell? ⟨g, 1, none⟩ = some (.int .i64 0)) (h2 : w.cell? ⟨g, 2, none⟩ = some (.int .u8 0)) (h3 : w.cell? ⟨g, 3, none⟩ = some (.int .i64 0)) :
    Calls Try.prog 34 #[.agg #[.int .u8 s, .int .i64 wt, .int .i64 c], .slice (some ⟨g, 0, none⟩) 1 1] w (RetMO w ⟨7, 0, c⟩ [⟨k, 0, 0, 0⟩, ⟨7, 0, 0, 0⟩]) := by
  have hq := ncap2
  have g1 : g < w.heap.size + 1 := by omega
  have g2 : g < w.heap.size + 1 + 1 := by omega
  go_enter Try.func34, Try.ntmps34
  go_wp2
  go_region
  go_wp2
  refine bodyPost_ret (v := .tuple #[.agg #[.int .u8 7, .int .i64 0, .int .i64 c], .slice (some ⟨w.heap.size + 1 + 1 + 1, 0, none⟩) 2 ((Question.appendCap 2 1 40).cut (w.tape (w.drawn + 1) (Question.appendCap 2 1 40)))]) (by simp [results, Try.results34, go_sem]) rfl ⟨_, rfl, ?_, ?_⟩
  · exact Outs.grown2 (by simp) (by omega) (by rfl) (cap_ge _ _ _ _) (by rfl)
  · repeat (first | exact Below.refl _ _ | refine Below.al _ (by simp; try omega) ?_ | refine Below.drew ?_)


def timS (m : Mach) (t : Int) : Mach × List Out :=
  if m.st = 1 ∧ t = 1 then (⟨1, min (2 * m.wait) 32000, m.code⟩, [⟨1, 0, 0, 0⟩, ⟨4, 0, 1, min (2 * m.wait) 32000⟩])
  else if m.st = 1 ∧ t = 2 then (⟨7, 0, m.code⟩, [⟨5, 0, 0, 0⟩, ⟨7, 0, 0, 0⟩])
  else if m.st = 4 ∧ t = 13 then (⟨7, 0, m.code⟩, [⟨7, 0, 0, 0⟩])
  else if m.st = 5 ∧ t = 4 then (⟨7, 0, m.code⟩, [⟨7, 0, 0, 0⟩])
  else (m, [])
def failS (m : Mach) : Mach × List Out :=
  if m.st = 1 ∨ m.st = 5 then (⟨7, 0, m.code⟩, [⟨6, 0, 0, 0⟩, ⟨7, 0, 0, 0⟩]) else (m, [])
def stepS (m : Mach) (i : Inp) : Mach × List Out :=
  if mayB m.st m.wait m.code = false then (⟨0, 0, 0⟩, [])
  else if i.kind = 2 then respS m i.code
  else if i.kind = 5 then timS m i.timer
  else if i.kind = 6 then failS m
  else (m, [])

theorem may_wait1 {wt c : Int} (h : mayB 1 wt c = true) : 500 ≤ wt ∧ wt ≤ 32000 := by
  simp [mayB, wOk] at h; omega

set_option maxHeartbeats 2000000 in
theorem rstep_no (wt c ic : Int) (s k t : Int) (hm : mayB s wt c = false) (w : World) : Calls Try.prog 28 #[.agg #[.int .u8 s, .int .i64 wt, .int .i64 c], .agg #[.int .u8 k, .int .i64 ic, .int .u8 t]] w (RetMO w ⟨0, 0, 0⟩ []) := by
  go_enter Try.func28, Try.ntmps28
  go_wp2_with (go_at_call 29; refine (rmay_any _ _ _ _).mono ?_; rintro e w' ⟨rfl, rfl⟩)
  refine bodyPost_ret (v := .tuple #[.agg #[.int .u8 0, .int .i64 0, .int .i64 0], .slice none 0 0]) (by simp [results, Try.results28, go_sem]) rfl ⟨_, rfl, ?_, ?_⟩
  · exact Outs.none_ _ _
  · repeat (first | exact Below.refl _ _ | refine Below.al _ (by simp; try omega) ?_ | refine Below.drew ?_)

set_option maxHeartbeats 2000000 in
theorem rstep_resp (wt c ic : Int) (s t : Int) (hm : mayB s wt c = true) (w : World) : Calls Try.prog 28 #[.agg #[.int .u8 s, .int .i64 wt, .int .i64 c], .agg #[.int .u8 2, .int .i64 ic, .int .u8 t]] w (RetMO w (respS ⟨s, wt, c⟩ ic).1 (respS ⟨s, wt, c⟩ ic).2) := by
  generalize hr : respS ⟨s, wt, c⟩ ic = r
  obtain ⟨⟨a0, a1, a2⟩, l⟩ := r
  have HR := Lib.hid hr; clear hr
  go_enter Try.func28, Try.ntmps28
  go_wp2_with (first | (go_at_call 29; refine (rmay_any _ _ _ _).mono ?_; rintro e w' ⟨rfl, rfl⟩) | fail)
  refine (resp_any _ _ _ _ _).mono ?_
  rw [HR.out]
  rintro e w1 ⟨v, rfl, hout, hb⟩
  obtain ⟨hc, hf⟩ := bcell hb
  have hz := hb.size
  simp only [World.size_alloc] at hz
  have hz1 : w.heap.size + 1 + 1 < w1.heap.size := by omega
  have HO := Lib.hid hout; clear hout; have HB := Lib.hid hb; clear hb
  go_wp2
  refine bodyPost_ret (v := .tuple #[.agg #[.int .u8 a0, .int .i64 a1, .int .i64 a2], v]) (by simp [results, Try.results28, go_sem, hc, hz1]) rfl ⟨v, rfl, ?_, ?_⟩
  · have ho := HO.out; simp only [World.size_alloc] at ho
    exact Outs.lower (((ho.setCell (by simp; try omega) _).setCell (by simp; try omega) _).setCell (by simp; try omega) _) (by omega)
  · have hb := HB.out; simp only [World.size_alloc] at hb
    refine Below.setCell (Below.setCell (Below.setCell (Below.trans ?_ (hb.mono (by omega))) (by simp; try omega) _) (by simp; try omega) _) (by simp; try omega) _
    repeat (first | exact Below.refl _ _ | refine Below.al _ (by simp; try omega) ?_ | refine Below.drew ?_)

set_option maxHeartbeats 2000000 in
theorem rstep_t12 (wt c ic : Int) (hm : mayB 1 wt c = true) (w : World) : Calls Try.prog 28 #[.agg #[.int .u8 1, .int .i64 wt, .int .i64 c], .agg #[.int .u8 5, .int .i64 ic, .int .u8 2]] w (RetMO w ⟨7, 0, c⟩ [⟨5, 0, 0, 0⟩, ⟨7, 0, 0, 0⟩]) := by
  go_enter Try.func28, Try.ntmps28
  go_wp2_with (first | (go_at_call 29; refine (rmay_any _ _ _ _).mono ?_; rintro e w' ⟨rfl, rfl⟩) | fail)
  refine (ended_one _ _ _ _ _ 5 ?a1 ?a2 ?a3 ?a4 ?a5).mono ?_
  case a1 => simp; try omega
  case a2 => go_simp
  case a3 => go_simp
  case a4 => go_simp
  case a5 => go_simp
  rintro e w1 ⟨v, rfl, hout, hb⟩
  obtain ⟨hc, hf⟩ := bcell hb
  have hz := hb.size
  simp only [World.size_alloc] at hz
  have hz1 : w.heap.size + 1 + 1 < w1.heap.size := by omega
  have HO := Lib.hid hout; clear hout; have HB := Lib.hid hb; clear hb
  go_wp2
  refine bodyPost_ret (v := .tuple #[.agg #[.int .u8 7, .int .i64 0, .int .i64 c], v]) (by simp [results, Try.results28, go_sem, hc, hz1]) rfl ⟨v, rfl, ?_, ?_⟩
  · have ho := HO.out; simp only [World.size_alloc] at ho
    exact Outs.lower (((ho.setCell (by simp; try omega) _).setCell (by simp; try omega) _).setCell (by simp; try omega) _) (by omega)
  · have hb := HB.out; simp only [World.size_alloc] at hb
    refine Below.setCell (Below.setCell (Below.setCell (Below.trans ?_ (hb.mono (by omega))) (by simp; try omega) _) (by simp; try omega) _) (by simp; try omega) _
    repeat (first | exact Below.refl _ _ | refine Below.al _ (by simp; try omega) ?_ | refine Below.drew ?_)

set_option maxHeartbeats 2000000 in
theorem rstep_t4 (wt c ic : Int) (hm : mayB 4 wt c = true) (w : World) : Calls Try.prog 28 #[.agg #[.int .u8 4, .int .i64 wt, .int .i64 c], .agg #[.int .u8 5, .int .i64 ic, .int .u8 13]] w (RetMO w ⟨7, 0, c⟩ [⟨7, 0, 0, 0⟩]) := by
  go_enter Try.func28, Try.ntmps28
  go_wp2_with (first | (go_at_call 29; refine (rmay_any _ _ _ _).mono ?_; rintro e w' ⟨rfl, rfl⟩) | fail)
  refine (ended_nil _ _ _ _).mono ?_
  rintro e w1 ⟨v, rfl, hout, hb⟩
  obtain ⟨hc, hf⟩ := bcell hb
  have hz := hb.size
  simp only [World.size_alloc] at hz
  have hz1 : w.heap.size + 1 + 1 < w1.heap.size := by omega
  have HO := Lib.hid hout; clear hout; have HB := Lib.hid hb; clear hb
  go_wp2
  refine bodyPost_ret (v := .tuple #[.agg #[.int .u8 7, .int .i64 0, .int .i64 c], v]) (by simp [results, Try.results28, go_sem, hc, hz1]) rfl ⟨v, rfl, ?_, ?_⟩
  · have ho := HO.out; simp only [World.size_alloc] at ho
    exact Outs.lower (((ho.setCell (by simp; try omega) _).setCell (by simp; try omega) _).setCell (by simp; try omega) _) (by omega)
  · have hb := HB.out; simp only [World.size_alloc] at hb
    refine Below.setCell (Below.setCell (Below.setCell (Below.trans ?_ (hb.mono (by omega))) (by simp; try omega) _) (by simp; try omega) _) (by simp; try omega) _
    repeat (first | exact Below.refl _ _ | refine Below.al _ (by simp; try omega) ?_ | refine Below.drew ?_)

set_option maxHeartbeats 2000000 in
theorem rstep_t5 (wt c ic : Int) (hm : mayB 5 wt c = true) (w : World) : Calls Try.prog 28 #[.agg #[.int .u8 5, .int .i64 wt, .int .i64 c], .agg #[.int .u8 5, .int .i64 ic, .int .u8 4]] w (RetMO w ⟨7, 0, c⟩ [⟨7, 0, 0, 0⟩]) := by
  go_enter Try.func28, Try.ntmps28
  go_wp2_with (first | (go_at_call 29; refine (rmay_any _ _ _ _).mono ?_; rintro e w' ⟨rfl, rfl⟩) | fail)
  refine (ended_nil _ _ _ _).mono ?_
  rintro e w1 ⟨v, rfl, hout, hb⟩
  obtain ⟨hc, hf⟩ := bcell hb
  have hz := hb.size
  simp only [World.size_alloc] at hz
  have hz1 : w.heap.size + 1 + 1 < w1.heap.size := by omega
  have HO := Lib.hid hout; clear hout; have HB := Lib.hid hb; clear hb
  go_wp2
  refine bodyPost_ret (v := .tuple #[.agg #[.int .u8 7, .int .i64 0, .int .i64 c], v]) (by simp [results, Try.results28, go_sem, hc, hz1]) rfl ⟨v, rfl, ?_, ?_⟩
  · have ho := HO.out; simp only [World.size_alloc] at ho
    exact Outs.lower (((ho.setCell (by simp; try omega) _).setCell (by simp; try omega) _).setCell (by simp; try omega) _) (by omega)
  · have hb := HB.out; simp only [World.size_alloc] at hb
    refine Below.setCell (Below.setCell (Below.setCell (Below.trans ?_ (hb.mono (by omega))) (by simp; try omega) _) (by simp; try omega) _) (by simp; try omega) _
    repeat (first | exact Below.refl _ _ | refine Below.al _ (by simp; try omega) ?_ | refine Below.drew ?_)

set_option maxHeartbeats 2000000 in
theorem rstep_f1 (wt c ic : Int) (t : Int) (hm : mayB 1 wt c = true) (w : World) : Calls Try.prog 28 #[.agg #[.int .u8 1, .int .i64 wt, .int .i64 c], .agg #[.int .u8 6, .int .i64 ic, .int .u8 t]] w (RetMO w ⟨7, 0, c⟩ [⟨6, 0, 0, 0⟩, ⟨7, 0, 0, 0⟩]) := by
  go_enter Try.func28, Try.ntmps28
  go_wp2_with (first | (go_at_call 29; refine (rmay_any _ _ _ _).mono ?_; rintro e w' ⟨rfl, rfl⟩) | fail)
  refine (ended_one _ _ _ _ _ 6 ?a1 ?a2 ?a3 ?a4 ?a5).mono ?_
  case a1 => simp; try omega
  case a2 => go_simp
  case a3 => go_simp
  case a4 => go_simp
  case a5 => go_simp
  rintro e w1 ⟨v, rfl, hout, hb⟩
  obtain ⟨hc, hf⟩ := bcell hb
  have hz := hb.size
  simp only [World.size_alloc] at hz
  have hz1 : w.heap.size + 1 + 1 < w1.heap.size := by omega
  have HO := Lib.hid hout; clear hout; have HB := Lib.hid hb; clear hb
  go_wp2
  refine bodyPost_ret (v := .tuple #[.agg #[.int .u8 7, .int .i64 0, .int .i64 c], v]) (by simp [results, Try.results28, go_sem, hc, hz1]) rfl ⟨v, rfl, ?_, ?_⟩
  · have ho := HO.out; simp only [World.size_alloc] at ho
    exact Outs.lower (((ho.setCell (by simp; try omega) _).setCell (by simp; try omega) _).setCell (by simp; try omega) _) (by omega)
  · have hb := HB.out; simp only [World.size_alloc] at hb
    refine Below.setCell (Below.setCell (Below.setCell (Below.trans ?_ (hb.mono (by omega))) (by simp; try omega) _) (by simp; try omega) _) (by simp; try omega) _
    repeat (first | exact Below.refl _ _ | refine Below.al _ (by simp; try omega) ?_ | refine Below.drew ?_)

set_option maxHeartbeats 2000000 in
theorem rstep_f5 (wt c ic : Int) (t : Int) (hm : mayB 5 wt c = true) (w : World) : Calls Try.prog 28 #[.agg #[.int .u8 5, .int .i64 wt, .int .i64 c], .agg #[.int .u8 6, .int .i64 ic, .int .u8 t]] w (RetMO w ⟨7, 0, c⟩ [⟨6, 0, 0, 0⟩, ⟨7, 0, 0, 0⟩]) := by
  go_enter Try.func28, Try.ntmps28
  go_wp2_with (first | (go_at_call 29; refine (rmay_any _ _ _ _).mono ?_; rintro e w' ⟨rfl, rfl⟩) | fail)
  refine (ended_one _ _ _ _ _ 6 ?a1 ?a2 ?a3 ?a4 ?a5).mono ?_
  case a1 => simp; try omega
  case a2 => go_simp
  case a3 => go_simp
  case a4 => go_simp
  case a5 => go_simp
  rintro e w1 ⟨v, rfl, hout, hb⟩
  obtain ⟨hc, hf⟩ := bcell hb
  have hz := hb.size
  simp only [World.size_alloc] at hz
  have hz1 : w.heap.size + 1 + 1 < w1.heap.size := by omega
  have HO := Lib.hid hout; clear hout; have HB := Lib.hid hb; clear hb
  go_wp2
  refine bodyPost_ret (v := .tuple #[.agg #[.int .u8 7, .int .i64 0, .int .i64 c], v]) (by simp [results, Try.results28, go_sem, hc, hz1]) rfl ⟨v, rfl, ?_, ?_⟩
  · have ho := HO.out; simp only [World.size_alloc] at ho
    exact Outs.lower (((ho.setCell (by simp; try omega) _).setCell (by simp; try omega) _).setCell (by simp; try omega) _) (by omega)
  · have hb := HB.out; simp only [World.size_alloc] at hb
    refine Below.setCell (Below.setCell (Below.setCell (Below.trans ?_ (hb.mono (by omega))) (by simp; try omega) _) (by simp; try omega) _) (by simp; try omega) _
    repeat (first | exact Below.refl _ _ | refine Below.al _ (by simp; try omega) ?_ | refine Below.drew ?_)

set_option maxHeartbeats 2000000 in
theorem rstep_tn1 (wt c ic : Int) (t : Int) (g1 : (t == 1) = false) (g2 : (t == 2) = false) (hm : mayB 1 wt c = true) (w : World) : Calls Try.prog 28 #[.agg #[.int .u8 1, .int .i64 wt, .int .i64 c], .agg #[.int .u8 5, .int .i64 ic, .int .u8 t]] w (RetMO w ⟨1, wt, c⟩ []) := by
  go_enter Try.func28, Try.ntmps28
  go_wp2_with (go_at_call 29; refine (rmay_any _ _ _ _).mono ?_; rintro e w' ⟨rfl, rfl⟩)
  refine bodyPost_ret (v := .tuple #[.agg #[.int .u8 1, .int .i64 wt, .int .i64 c], .slice none 0 0]) (by simp [results, Try.results28, go_sem]) rfl ⟨_, rfl, ?_, ?_⟩
  · exact Outs.none_ _ _
  · repeat (first | exact Below.refl _ _ | refine Below.al _ (by simp; try omega) ?_ | refine Below.drew ?_)

set_option maxHeartbeats 2000000 in
theorem rstep_tn4 (wt c ic : Int) (t : Int) (g1 : (t == 13) = false) (hm : mayB 4 wt c = true) (w : World) : Calls Try.prog 28 #[.agg #[.int .u8 4, .int .i64 wt, .int .i64 c], .agg #[.int .u8 5, .int .i64 ic, .int .u8 t]] w (RetMO w ⟨4, wt, c⟩ []) := by
  go_enter Try.func28, Try.ntmps28
  go_wp2_with (go_at_call 29; refine (rmay_any _ _ _ _).mono ?_; rintro e w' ⟨rfl, rfl⟩)
  refine bodyPost_ret (v := .tuple #[.agg #[.int .u8 4, .int .i64 wt, .int .i64 c], .slice none 0 0]) (by simp [results, Try.results28, go_sem]) rfl ⟨_, rfl, ?_, ?_⟩
  · exact Outs.none_ _ _
  · repeat (first | exact Below.refl _ _ | refine Below.al _ (by simp; try omega) ?_ | refine Below.drew ?_)

set_option maxHeartbeats 2000000 in
theorem rstep_tn5 (wt c ic : Int) (t : Int) (g1 : (t == 4) = false) (hm : mayB 5 wt c = true) (w : World) : Calls Try.prog 28 #[.agg #[.int .u8 5, .int .i64 wt, .int .i64 c], .agg #[.int .u8 5, .int .i64 ic, .int .u8 t]] w (RetMO w ⟨5, wt, c⟩ []) := by
  go_enter Try.func28, Try.ntmps28
  go_wp2_with (go_at_call 29; refine (rmay_any _ _ _ _).mono ?_; rintro e w' ⟨rfl, rfl⟩)
  refine bodyPost_ret (v := .tuple #[.agg #[.int .u8 5, .int .i64 wt, .int .i64 c], .slice none 0 0]) (by simp [results, Try.results28, go_sem]) rfl ⟨_, rfl, ?_, ?_⟩
  · exact Outs.none_ _ _
  · repeat (first | exact Below.refl _ _ | refine Below.al _ (by simp; try omega) ?_ | refine Below.drew ?_)

set_option maxHeartbeats 2000000 in
theorem rstep_tno (wt c ic : Int) (s t : Int) (g1 : (s == 1) = false) (g4 : (s == 4) = false) (g5 : (s == 5) = false) (hm : mayB s wt c = true) (w : World) : Calls Try.prog 28 #[.agg #[.int .u8 s, .int .i64 wt, .int .i64 c], .agg #[.int .u8 5, .int .i64 ic, .int .u8 t]] w (RetMO w ⟨s, wt, c⟩ []) := by
  go_enter Try.func28, Try.ntmps28
  go_wp2_with (go_at_call 29; refine (rmay_any _ _ _ _).mono ?_; rintro e w' ⟨rfl, rfl⟩)
  refine bodyPost_ret (v := .tuple #[.agg #[.int .u8 s, .int .i64 wt, .int .i64 c], .slice none 0 0]) (by simp [results, Try.results28, go_sem]) rfl ⟨_, rfl, ?_, ?_⟩
  · exact Outs.none_ _ _
  · repeat (first | exact Below.refl _ _ | refine Below.al _ (by simp; try omega) ?_ | refine Below.drew ?_)

set_option maxHeartbeats 2000000 in
theorem rstep_f4 (wt c ic : Int) (t : Int) (hm : mayB 4 wt c = true) (w : World) : Calls Try.prog 28 #[.agg #[.int .u8 4, .int .i64 wt, .int .i64 c], .agg #[.int .u8 6, .int .i64 ic, .int .u8 t]] w (RetMO w ⟨4, wt, c⟩ []) := by
  go_enter Try.func28, Try.ntmps28
  go_wp2_with (go_at_call 29; refine (rmay_any _ _ _ _).mono ?_; rintro e w' ⟨rfl, rfl⟩)
  refine bodyPost_ret (v := .tuple #[.agg #[.int .u8 4, .int .i64 wt, .int .i64 c], .slice none 0 0]) (by simp [results, Try.results28, go_sem]) rfl ⟨_, rfl, ?_, ?_⟩
  · exact Outs.none_ _ _
  · repeat (first | exact Below.refl _ _ | refine Below.al _ (by simp; try omega) ?_ | refine Below.drew ?_)

set_option maxHeartbeats 2000000 in
theorem rstep_fo (wt c ic : Int) (s t : Int) (g1 : (s == 1) = false) (g4 : (s == 4) = false) (g5 : (s == 5) = false) (hm : mayB s wt c = true) (w : World) : Calls Try.prog 28 #[.agg #[.int .u8 s, .int .i64 wt, .int .i64 c], .agg #[.int .u8 6, .int .i64 ic, .int .u8 t]] w (RetMO w ⟨s, wt, c⟩ []) := by
  go_enter Try.func28, Try.ntmps28
  go_wp2_with (go_at_call 29; refine (rmay_any _ _ _ _).mono ?_; rintro e w' ⟨rfl, rfl⟩)
  refine bodyPost_ret (v := .tuple #[.agg #[.int .u8 s, .int .i64 wt, .int .i64 c], .slice none 0 0]) (by simp [results, Try.results28, go_sem]) rfl ⟨_, rfl, ?_, ?_⟩
  · exact Outs.none_ _ _
  · repeat (first | exact Below.refl _ _ | refine Below.al _ (by simp; try omega) ?_ | refine Below.drew ?_)

set_option maxHeartbeats 2000000 in
theorem rstep_o1 (wt c ic : Int) (k t : Int) (k2 : (k == 2) = false) (k5 : (k == 5) = false) (k6 : (k == 6) = false) (hm : mayB 1 wt c = true) (w : World) : Calls Try.prog 28 #[.agg #[.int .u8 1, .int .i64 wt, .int .i64 c], .agg #[.int .u8 k, .int .i64 ic, .int .u8 t]] w (RetMO w ⟨1, wt, c⟩ []) := by
  go_enter Try.func28, Try.ntmps28
  go_wp2_with (go_at_call 29; refine (rmay_any _ _ _ _).mono ?_; rintro e w' ⟨rfl, rfl⟩)
  refine bodyPost_ret (v := .tuple #[.agg #[.int .u8 1, .int .i64 wt, .int .i64 c], .slice none 0 0]) (by simp [results, Try.results28, go_sem]) rfl ⟨_, rfl, ?_, ?_⟩
  · exact Outs.none_ _ _
  · repeat (first | exact Below.refl _ _ | refine Below.al _ (by simp; try omega) ?_ | refine Below.drew ?_)

set_option maxHeartbeats 2000000 in
theorem rstep_o4 (wt c ic : Int) (k t : Int) (k2 : (k == 2) = false) (k5 : (k == 5) = false) (k6 : (k == 6) = false) (hm : mayB 4 wt c = true) (w : World) : Calls Try.prog 28 #[.agg #[.int .u8 4, .int .i64 wt, .int .i64 c], .agg #[.int .u8 k, .int .i64 ic, .int .u8 t]] w (RetMO w ⟨4, wt, c⟩ []) := by
  go_enter Try.func28, Try.ntmps28
  go_wp2_with (go_at_call 29; refine (rmay_any _ _ _ _).mono ?_; rintro e w' ⟨rfl, rfl⟩)
  refine bodyPost_ret (v := .tuple #[.agg #[.int .u8 4, .int .i64 wt, .int .i64 c], .slice none 0 0]) (by simp [results, Try.results28, go_sem]) rfl ⟨_, rfl, ?_, ?_⟩
  · exact Outs.none_ _ _
  · repeat (first | exact Below.refl _ _ | refine Below.al _ (by simp; try omega) ?_ | refine Below.drew ?_)

set_option maxHeartbeats 2000000 in
theorem rstep_o5 (wt c ic : Int) (k t : Int) (k2 : (k == 2) = false) (k5 : (k == 5) = false) (k6 : (k == 6) = false) (hm : mayB 5 wt c = true) (w : World) : Calls Try.prog 28 #[.agg #[.int .u8 5, .int .i64 wt, .int .i64 c], .agg #[.int .u8 k, .int .i64 ic, .int .u8 t]] w (RetMO w ⟨5, wt, c⟩ []) := by
  go_enter Try.func28, Try.ntmps28
  go_wp2_with (go_at_call 29; refine (rmay_any _ _ _ _).mono ?_; rintro e w' ⟨rfl, rfl⟩)
  refine bodyPost_ret (v := .tuple #[.agg #[.int .u8 5, .int .i64 wt, .int .i64 c], .slice none 0 0]) (by simp [results, Try.results28, go_sem]) rfl ⟨_, rfl, ?_, ?_⟩
  · exact Outs.none_ _ _
  · repeat (first | exact Below.refl _ _ | refine Below.al _ (by simp; try omega) ?_ | refine Below.drew ?_)

set_option maxHeartbeats 2000000 in
theorem rstep_oo (wt c ic : Int) (k t : Int) (k2 : (k == 2) = false) (k5 : (k == 5) = false) (k6 : (k == 6) = false)  (s : Int) (g1 : (s == 1) = false) (g4 : (s == 4) = false) (g5 : (s == 5) = false) (hm : mayB s wt c = true) (w : World) : Calls Try.prog 28 #[.agg #[.int .u8 s, .int .i64 wt, .int .i64 c], .agg #[.int .u8 k, .int .i64 ic, .int .u8 t]] w (RetMO w ⟨s, wt, c⟩ []) := by
  go_enter Try.func28, Try.ntmps28
  go_wp2_with (go_at_call 29; refine (rmay_any _ _ _ _).mono ?_; rintro e w' ⟨rfl, rfl⟩)
  refine bodyPost_ret (v := .tuple #[.agg #[.int .u8 s, .int .i64 wt, .int .i64 c], .slice none 0 0]) (by simp [results, Try.results28, go_sem]) rfl ⟨_, rfl, ?_, ?_⟩
  · exact Outs.none_ _ _
  · repeat (first | exact Below.refl _ _ | refine Below.al _ (by simp; try omega) ?_ | refine Below.drew ?_)

set_option maxHeartbeats 2000000 in
theorem rstep_t11a (wt c ic : Int) (h1 : 500 ≤ wt) (h2 : wt ≤ 32000) (h3 : 2 * wt ≤ 32000) (hm : mayB 1 wt c = true) (w : World) : Calls Try.prog 28 #[.agg #[.int .u8 1, .int .i64 wt, .int .i64 c], .agg #[.int .u8 5, .int .i64 ic, .int .u8 1]] w (RetMO w ⟨1, 2 * wt, c⟩ [⟨1, 0, 0, 0⟩, ⟨4, 0, 1, 2 * wt⟩]) := by
  go_enter Try.func28, Try.ntmps28
  go_wp2_with (go_at_call 29; refine (rmay_any _ _ _ _).mono ?_; rintro e w' ⟨rfl, rfl⟩)
  go_region
  go_wp2
  refine bodyPost_ret (v := .tuple #[.agg #[.int .u8 1, .int .i64 (2 * wt), .int .i64 c], .slice (some ⟨w.heap.size + 1 + 1 + 1 + 1, 0, none⟩) 2 2]) (by simp [results, Try.results28, go_sem]) rfl ⟨_, rfl, ?_, ?_⟩
  · exact Outs.new (by simp) (by omega) (by rfl) (by rfl)
  · repeat (first | exact Below.refl _ _ | refine Below.al _ (by simp; try omega) ?_ | refine Below.drew ?_)

set_option maxHeartbeats 2000000 in
theorem rstep_t11b (wt c ic : Int) (h1 : 500 ≤ wt) (h2 : wt ≤ 32000) (h3 : 32000 < 2 * wt) (hm : mayB 1 wt c = true) (w : World) : Calls Try.prog 28 #[.agg #[.int .u8 1, .int .i64 wt, .int .i64 c], .agg #[.int .u8 5, .int .i64 ic, .int .u8 1]] w (RetMO w ⟨1, 32000, c⟩ [⟨1, 0, 0, 0⟩, ⟨4, 0, 1, 32000⟩]) := by
  go_enter Try.func28, Try.ntmps28
  go_wp2_with (go_at_call 29; refine (rmay_any _ _ _ _).mono ?_; rintro e w' ⟨rfl, rfl⟩)
  go_region
  go_wp2
  refine bodyPost_ret (v := .tuple #[.agg #[.int .u8 1, .int .i64 (32000), .int .i64 c], .slice (some ⟨w.heap.size + 1 + 1 + 1 + 1, 0, none⟩) 2 2]) (by simp [results, Try.results28, go_sem]) rfl ⟨_, rfl, ?_, ?_⟩
  · exact Outs.new (by simp) (by omega) (by rfl) (by rfl)
  · repeat (first | exact Below.refl _ _ | refine Below.al _ (by simp; try omega) ?_ | refine Below.drew ?_)


theorem rstep_any (s wt c k ic t : Int) (w : World) : Calls Try.prog 28 #[.agg #[.int .u8 s, .int .i64 wt, .int .i64 c], .agg #[.int .u8 k, .int .i64 ic, .int .u8 t]] w (RetMO w (stepS ⟨s, wt, c⟩ ⟨k, ic, t⟩).1 (stepS ⟨s, wt, c⟩ ⟨k, ic, t⟩).2) := by
  by_cases hm0 : mayB s wt c = false
  · simpa [stepS, hm0] using rstep_no wt c ic s k t hm0 w
  have hm : mayB s wt c = true := by simpa using hm0
  by_cases k2 : k = 2
  · subst k2; simpa [stepS, hm] using rstep_resp wt c ic s t hm w
  by_cases k5 : k = 5
  · subst k5
    by_cases a1 : s = 1
    · subst a1
      by_cases b1 : t = 1
      · subst b1
        have hw := may_wait1 hm
        by_cases h3 : 2 * wt ≤ 32000
        · have e : min (2 * wt) 32000 = 2 * wt := by omega
          simpa [stepS, timS, hm, e] using rstep_t11a wt c ic hw.1 hw.2 h3 hm w
        · have e : min (2 * wt) 32000 = 32000 := by omega
          simpa [stepS, timS, hm, e] using rstep_t11b wt c ic hw.1 hw.2 (by omega) hm w
      by_cases b2 : t = 2
      · subst b2; simpa [stepS, timS, hm] using rstep_t12 wt c ic hm w
      simpa [stepS, timS, hm, b1, b2] using rstep_tn1 wt c ic t (by simp [b1]) (by simp [b2]) hm w
    by_cases a4 : s = 4
    · subst a4
      by_cases b1 : t = 13
      · subst b1; simpa [stepS, timS, hm] using rstep_t4 wt c ic hm w
      simpa [stepS, timS, hm, b1] using rstep_tn4 wt c ic t (by simp [b1]) hm w
    by_cases a5 : s = 5
    · subst a5
      by_cases b1 : t = 4
      · subst b1; simpa [stepS, timS, hm] using rstep_t5 wt c ic hm w
      simpa [stepS, timS, hm, b1] using rstep_tn5 wt c ic t (by simp [b1]) hm w
    simpa [stepS, timS, hm, a1, a4, a5] using rstep_tno wt c ic s t (by simp [a1]) (by simp [a4]) (by simp [a5]) hm w
  by_cases k6 : k = 6
  · subst k6
    by_cases a1 : s = 1
    · subst a1; simpa [stepS, failS, hm] using rstep_f1 wt c ic t hm w
    by_cases a5 : s = 5
    · subst a5; simpa [stepS, failS, hm] using rstep_f5 wt c ic t hm w
    by_cases a4 : s = 4
    · subst a4; simpa [stepS, failS, hm] using rstep_f4 wt c ic t hm w
    simpa [stepS, failS, hm, a1, a4, a5] using rstep_fo wt c ic s t (by simp [a1]) (by simp [a4]) (by simp [a5]) hm w
  have g2 : (k == 2) = false := by simp [k2]
  have g5 : (k == 5) = false := by simp [k5]
  have g6 : (k == 6) = false := by simp [k6]
  by_cases a1 : s = 1
  · subst a1; simpa [stepS, hm, k2, k5, k6] using rstep_o1 wt c ic k t g2 g5 g6 hm w
  by_cases a4 : s = 4
  · subst a4; simpa [stepS, hm, k2, k5, k6] using rstep_o4 wt c ic k t g2 g5 g6 hm w
  by_cases a5 : s = 5
  · subst a5; simpa [stepS, hm, k2, k5, k6] using rstep_o5 wt c ic k t g2 g5 g6 hm w
  simpa [stepS, hm, k2, k5, k6] using rstep_oo wt c ic k t g2 g5 g6 s (by simp [a1]) (by simp [a4]) (by simp [a5]) hm w

end Go.Proofs.Ytdooohanhekniaa
