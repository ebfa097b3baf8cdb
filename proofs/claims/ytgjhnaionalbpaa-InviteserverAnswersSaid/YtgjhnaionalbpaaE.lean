/- The contract of inviteserver's Step. -/
import Derived.Test.YtgjhnaionalbpaaD
namespace Go.Proofs.Ytgjhnaionalbpaa
open Go.RowKit

def stepS (m : Mach) (i : Inp) : Mach × List Out :=
  if mayB m.st m.wait m.code = false then (⟨0, 0, 0⟩, [])
  else if m.st = 5 then
    if i.kind = 3 then (⟨6, 0, m.code⟩, [⟨4, 0, 9, 5000⟩])
    else if i.kind = 5 then firedS m i.timer
    else if i.kind = 1 then (m, [⟨1, m.code, 0, 0⟩])
    else if i.kind = 6 then (⟨7, 0, m.code⟩, [⟨6, 0, 0, 0⟩, ⟨7, 0, 0, 0⟩])
    else (m, [])
  else if m.st = 3 then
    if i.kind = 1 then (m, [⟨1, m.code, 0, 0⟩])
    else if i.kind = 6 then (⟨7, 0, m.code⟩, [⟨6, 0, 0, 0⟩, ⟨7, 0, 0, 0⟩])
    else if i.kind = 4 then answS m i.code
    else (m, [])
  else if m.st = 4 then
    if i.kind = 4 ∧ 200 ≤ i.code ∧ i.code ≤ 299 then (⟨4, m.wait, i.code⟩, [⟨1, i.code, 0, 0⟩])
    else if i.kind = 5 ∧ i.timer = 12 then (⟨7, 0, m.code⟩, [⟨7, 0, 0, 0⟩])
    else (m, [])
  else if m.st = 6 then
    if i.kind = 5 ∧ i.timer = 9 then (⟨7, 0, m.code⟩, [⟨7, 0, 0, 0⟩]) else (m, [])
  else (m, [])

set_option maxHeartbeats 2000000 in
theorem step_no (wt c ic : Int) (s k t : Int) (w : World) (hm : mayB s wt c = false) : Calls Try.prog 25 #[.agg #[.int .u8 s, .int .i64 wt, .int .i64 c], .agg #[.int .u8 k, .int .i64 ic, .int .u8 t]] w (RetMO w ⟨0, 0, 0⟩ []) := by
  go_enter Try.func25, Try.ntmps25
  go_wp2_with (go_at_call 14; refine (may_any _ _ _ _).mono ?_; rintro e w' ⟨rfl, rfl⟩)
  refine bodyPost_ret (v := .tuple #[.agg #[.int .u8 0, .int .i64 (0), .int .i64 0], .slice none 0 0]) (by simp [results, Try.results25, go_sem]) rfl ⟨_, rfl, ?_, ?_⟩
  · exact Outs.none_ _ _
  · repeat (first | exact Below.refl _ _ | refine Below.al _ (by simp; try omega) ?_ | refine Below.drew ?_)

set_option maxHeartbeats 2000000 in
theorem step_5_3 (wt c ic : Int) (t : Int) (w : World) (hm : mayB 5 wt c = true) : Calls Try.prog 25 #[.agg #[.int .u8 5, .int .i64 wt, .int .i64 c], .agg #[.int .u8 3, .int .i64 ic, .int .u8 t]] w (RetMO w ⟨6, 0, c⟩ [⟨4, 0, 9, 5000⟩]) := by
  go_enter Try.func25, Try.ntmps25
  go_wp2_with (first | (go_at_call 14; refine (may_any _ _ _ _).mono ?_; rintro e w' ⟨rfl, rfl⟩) | fail)
  go_region_held3 (fun w' => (w'.cell? ⟨w.heap.size, 0, none⟩ = some (.int .u8 5) ∧ w'.cell? ⟨w.heap.size, 1, none⟩ = some (.int .i64 wt) ∧ w'.cell? ⟨w.heap.size, 2, none⟩ = some (.int .i64 c)) ∧ (w'.cell? ⟨w.heap.size + 1 + 1 + 1 + 1, 0, none⟩ = some (.int .u8 7) ∧ w'.cell? ⟨w.heap.size + 1 + 1 + 1 + 1, 1, none⟩ = some (.int .i64 0) ∧ w'.cell? ⟨w.heap.size + 1 + 1 + 1 + 1, 2, none⟩ = some (.int .i64 c)) ∧ (w'.cell? ⟨w.heap.size + 1 + 1 + 1 + 1 + 1, 0, none⟩ = some (.int .u8 7) ∧ w'.cell? ⟨w.heap.size + 1 + 1 + 1 + 1 + 1, 1, none⟩ = some (.int .i64 0) ∧ w'.cell? ⟨w.heap.size + 1 + 1 + 1 + 1 + 1, 2, none⟩ = some (.int .u8 0) ∧ w'.cell? ⟨w.heap.size + 1 + 1 + 1 + 1 + 1, 3, none⟩ = some (.int .i64 0))) (first | (go_simp; done) | go_keep)
    (first | (go_at_call 30; refine (send_any _ _ _ _).mono ?_; rintro e w' ⟨rfl, rfl⟩) | (go_at_call 34; refine (timer_any _ _ _).mono ?_; rintro e w' ⟨rfl, rfl⟩) | (go_at_call 29; refine (with_any _ _ _ _ _ _ _).mono ?_; rintro e w' ⟨rfl, rfl⟩))
  go_wp2
  refine bodyPost_ret (v := .tuple #[.agg #[.int .u8 6, .int .i64 (0), .int .i64 c], .slice (some ⟨w.heap.size + 1 + 1 + 1 + 1 + 1 + 1 + 1, 0, none⟩) 1 1]) (by simp [results, Try.results25, go_sem]) rfl ⟨_, rfl, ?_, ?_⟩
  · exact Outs.drew (((Outs.new (by simp) (by omega) (by rfl) (by rfl)).alloc _).alloc _)
  · repeat (first | exact Below.refl _ _ | refine Below.al _ (by simp; try omega) ?_ | refine Below.drew ?_)

set_option maxHeartbeats 2000000 in
theorem step_5_1 (wt c ic : Int) (t : Int) (w : World) (hm : mayB 5 wt c = true) : Calls Try.prog 25 #[.agg #[.int .u8 5, .int .i64 wt, .int .i64 c], .agg #[.int .u8 1, .int .i64 ic, .int .u8 t]] w (RetMO w ⟨5, wt, c⟩ [⟨1, c, 0, 0⟩]) := by
  go_enter Try.func25, Try.ntmps25
  go_wp2_with (first | (go_at_call 14; refine (may_any _ _ _ _).mono ?_; rintro e w' ⟨rfl, rfl⟩) | fail)
  go_region_held3 (fun w' => (w'.cell? ⟨w.heap.size, 0, none⟩ = some (.int .u8 5) ∧ w'.cell? ⟨w.heap.size, 1, none⟩ = some (.int .i64 wt) ∧ w'.cell? ⟨w.heap.size, 2, none⟩ = some (.int .i64 c)) ∧ (w'.cell? ⟨w.heap.size + 1 + 1 + 1 + 1, 0, none⟩ = some (.int .u8 7) ∧ w'.cell? ⟨w.heap.size + 1 + 1 + 1 + 1, 1, none⟩ = some (.int .i64 0) ∧ w'.cell? ⟨w.heap.size + 1 + 1 + 1 + 1, 2, none⟩ = some (.int .i64 c)) ∧ (w'.cell? ⟨w.heap.size + 1 + 1 + 1 + 1 + 1, 0, none⟩ = some (.int .u8 7) ∧ w'.cell? ⟨w.heap.size + 1 + 1 + 1 + 1 + 1, 1, none⟩ = some (.int .i64 0) ∧ w'.cell? ⟨w.heap.size + 1 + 1 + 1 + 1 + 1, 2, none⟩ = some (.int .u8 0) ∧ w'.cell? ⟨w.heap.size + 1 + 1 + 1 + 1 + 1, 3, none⟩ = some (.int .i64 0))) (first | (go_simp; done) | go_keep)
    (first | (go_at_call 30; refine (send_any _ _ _ _).mono ?_; rintro e w' ⟨rfl, rfl⟩) | (go_at_call 34; refine (timer_any _ _ _).mono ?_; rintro e w' ⟨rfl, rfl⟩) | (go_at_call 29; refine (with_any _ _ _ _ _ _ _).mono ?_; rintro e w' ⟨rfl, rfl⟩))
  go_wp2
  refine bodyPost_ret (v := .tuple #[.agg #[.int .u8 5, .int .i64 (wt), .int .i64 c], .slice (some ⟨w.heap.size + 1 + 1 + 1 + 1 + 1 + 1 + 1 + 1, 0, none⟩) 1 1]) (by simp [results, Try.results25, go_sem]) rfl ⟨_, rfl, ?_, ?_⟩
  · exact Outs.drew (((Outs.new (by simp) (by omega) (by rfl) (by rfl)).alloc _).alloc _)
  · repeat (first | exact Below.refl _ _ | refine Below.al _ (by simp; try omega) ?_ | refine Below.drew ?_)

set_option maxHeartbeats 2000000 in
theorem step_5_6 (wt c ic : Int) (t : Int) (w : World) (hm : mayB 5 wt c = true) : Calls Try.prog 25 #[.agg #[.int .u8 5, .int .i64 wt, .int .i64 c], .agg #[.int .u8 6, .int .i64 ic, .int .u8 t]] w (RetMO w ⟨7, 0, c⟩ [⟨6, 0, 0, 0⟩, ⟨7, 0, 0, 0⟩]) := by
  go_enter Try.func25, Try.ntmps25
  go_wp2_with (first | (go_at_call 14; refine (may_any _ _ _ _).mono ?_; rintro e w' ⟨rfl, rfl⟩) | (go_at_call 30; refine (send_any _ _ _ _).mono ?_; rintro e w' ⟨rfl, rfl⟩) | (go_at_call 34; refine (timer_any _ _ _).mono ?_; rintro e w' ⟨rfl, rfl⟩) | (go_at_call 29; refine (with_any _ _ _ _ _ _ _).mono ?_; rintro e w' ⟨rfl, rfl⟩))
  refine bodyPost_ret (v := .tuple #[.agg #[.int .u8 7, .int .i64 (0), .int .i64 c], .slice (some ⟨w.heap.size + 1 + 1 + 1 + 1 + 1 + 1, 0, none⟩) 2 2]) (by simp [results, Try.results25, go_sem]) rfl ⟨_, rfl, ?_, ?_⟩
  · exact ((Outs.new (by simp) (by omega) (by rfl) (by rfl)).alloc _).alloc _
  · repeat (first | exact Below.refl _ _ | refine Below.al _ (by simp; try omega) ?_ | refine Below.drew ?_)

set_option maxHeartbeats 2000000 in
theorem step_3_1 (wt c ic : Int) (t : Int) (w : World) (hm : mayB 3 wt c = true) : Calls Try.prog 25 #[.agg #[.int .u8 3, .int .i64 wt, .int .i64 c], .agg #[.int .u8 1, .int .i64 ic, .int .u8 t]] w (RetMO w ⟨3, wt, c⟩ [⟨1, c, 0, 0⟩]) := by
  go_enter Try.func25, Try.ntmps25
  go_wp2_with (first | (go_at_call 14; refine (may_any _ _ _ _).mono ?_; rintro e w' ⟨rfl, rfl⟩) | fail)
  go_region_held3 (fun w' => (w'.cell? ⟨w.heap.size, 0, none⟩ = some (.int .u8 3) ∧ w'.cell? ⟨w.heap.size, 1, none⟩ = some (.int .i64 wt) ∧ w'.cell? ⟨w.heap.size, 2, none⟩ = some (.int .i64 c)) ∧ (w'.cell? ⟨w.heap.size + 1 + 1 + 1 + 1, 0, none⟩ = some (.int .u8 7) ∧ w'.cell? ⟨w.heap.size + 1 + 1 + 1 + 1, 1, none⟩ = some (.int .i64 0) ∧ w'.cell? ⟨w.heap.size + 1 + 1 + 1 + 1, 2, none⟩ = some (.int .i64 c)) ∧ (w'.cell? ⟨w.heap.size + 1 + 1 + 1 + 1 + 1, 0, none⟩ = some (.int .u8 7) ∧ w'.cell? ⟨w.heap.size + 1 + 1 + 1 + 1 + 1, 1, none⟩ = some (.int .i64 0) ∧ w'.cell? ⟨w.heap.size + 1 + 1 + 1 + 1 + 1, 2, none⟩ = some (.int .u8 0) ∧ w'.cell? ⟨w.heap.size + 1 + 1 + 1 + 1 + 1, 3, none⟩ = some (.int .i64 0))) (first | (go_simp; done) | go_keep)
    (first | (go_at_call 30; refine (send_any _ _ _ _).mono ?_; rintro e w' ⟨rfl, rfl⟩) | (go_at_call 34; refine (timer_any _ _ _).mono ?_; rintro e w' ⟨rfl, rfl⟩) | (go_at_call 29; refine (with_any _ _ _ _ _ _ _).mono ?_; rintro e w' ⟨rfl, rfl⟩))
  go_wp2
  refine bodyPost_ret (v := .tuple #[.agg #[.int .u8 3, .int .i64 (wt), .int .i64 c], .slice (some ⟨w.heap.size + 1 + 1 + 1 + 1 + 1 + 1 + 1 + 1, 0, none⟩) 1 1]) (by simp [results, Try.results25, go_sem]) rfl ⟨_, rfl, ?_, ?_⟩
  · exact Outs.drew (((Outs.new (by simp) (by omega) (by rfl) (by rfl)).alloc _).alloc _)
  · repeat (first | exact Below.refl _ _ | refine Below.al _ (by simp; try omega) ?_ | refine Below.drew ?_)

set_option maxHeartbeats 2000000 in
theorem step_3_6 (wt c ic : Int) (t : Int) (w : World) (hm : mayB 3 wt c = true) : Calls Try.prog 25 #[.agg #[.int .u8 3, .int .i64 wt, .int .i64 c], .agg #[.int .u8 6, .int .i64 ic, .int .u8 t]] w (RetMO w ⟨7, 0, c⟩ [⟨6, 0, 0, 0⟩, ⟨7, 0, 0, 0⟩]) := by
  go_enter Try.func25, Try.ntmps25
  go_wp2_with (first | (go_at_call 14; refine (may_any _ _ _ _).mono ?_; rintro e w' ⟨rfl, rfl⟩) | (go_at_call 30; refine (send_any _ _ _ _).mono ?_; rintro e w' ⟨rfl, rfl⟩) | (go_at_call 34; refine (timer_any _ _ _).mono ?_; rintro e w' ⟨rfl, rfl⟩) | (go_at_call 29; refine (with_any _ _ _ _ _ _ _).mono ?_; rintro e w' ⟨rfl, rfl⟩))
  refine bodyPost_ret (v := .tuple #[.agg #[.int .u8 7, .int .i64 (0), .int .i64 c], .slice (some ⟨w.heap.size + 1 + 1 + 1 + 1 + 1 + 1, 0, none⟩) 2 2]) (by simp [results, Try.results25, go_sem]) rfl ⟨_, rfl, ?_, ?_⟩
  · exact ((Outs.new (by simp) (by omega) (by rfl) (by rfl)).alloc _).alloc _
  · repeat (first | exact Below.refl _ _ | refine Below.al _ (by simp; try omega) ?_ | refine Below.drew ?_)

set_option maxHeartbeats 2000000 in
theorem step_5_4 (wt c ic : Int) (t : Int) (w : World) (hm : mayB 5 wt c = true) : Calls Try.prog 25 #[.agg #[.int .u8 5, .int .i64 wt, .int .i64 c], .agg #[.int .u8 4, .int .i64 ic, .int .u8 t]] w (RetMO w ⟨5, wt, c⟩ []) := by
  go_enter Try.func25, Try.ntmps25
  go_wp2_with (go_at_call 14; refine (may_any _ _ _ _).mono ?_; rintro e w' ⟨rfl, rfl⟩)
  refine bodyPost_ret (v := .tuple #[.agg #[.int .u8 5, .int .i64 (wt), .int .i64 c], .slice none 0 0]) (by simp [results, Try.results25, go_sem]) rfl ⟨_, rfl, ?_, ?_⟩
  · exact Outs.none_ _ _
  · repeat (first | exact Below.refl _ _ | refine Below.al _ (by simp; try omega) ?_ | refine Below.drew ?_)

set_option maxHeartbeats 2000000 in
theorem step_5_o (wt c ic : Int) (k t : Int) (k1 : (k == 1) = false) (k3 : (k == 3) = false) (k4 : (k == 4) = false) (k5 : (k == 5) = false) (k6 : (k == 6) = false) (w : World) (hm : mayB 5 wt c = true) : Calls Try.prog 25 #[.agg #[.int .u8 5, .int .i64 wt, .int .i64 c], .agg #[.int .u8 k, .int .i64 ic, .int .u8 t]] w (RetMO w ⟨5, wt, c⟩ []) := by
  go_enter Try.func25, Try.ntmps25
  go_wp2_with (go_at_call 14; refine (may_any _ _ _ _).mono ?_; rintro e w' ⟨rfl, rfl⟩)
  refine bodyPost_ret (v := .tuple #[.agg #[.int .u8 5, .int .i64 (wt), .int .i64 c], .slice none 0 0]) (by simp [results, Try.results25, go_sem]) rfl ⟨_, rfl, ?_, ?_⟩
  · exact Outs.none_ _ _
  · repeat (first | exact Below.refl _ _ | refine Below.al _ (by simp; try omega) ?_ | refine Below.drew ?_)

set_option maxHeartbeats 2000000 in
theorem step_4_t (wt c ic : Int)  (w : World) (hm : mayB 4 wt c = true) : Calls Try.prog 25 #[.agg #[.int .u8 4, .int .i64 wt, .int .i64 c], .agg #[.int .u8 5, .int .i64 ic, .int .u8 12]] w (RetMO w ⟨7, 0, c⟩ [⟨7, 0, 0, 0⟩]) := by
  go_enter Try.func25, Try.ntmps25
  go_wp2_with (first | (go_at_call 14; refine (may_any _ _ _ _).mono ?_; rintro e w' ⟨rfl, rfl⟩) | (go_at_call 30; refine (send_any _ _ _ _).mono ?_; rintro e w' ⟨rfl, rfl⟩) | (go_at_call 34; refine (timer_any _ _ _).mono ?_; rintro e w' ⟨rfl, rfl⟩) | (go_at_call 29; refine (with_any _ _ _ _ _ _ _).mono ?_; rintro e w' ⟨rfl, rfl⟩))
  refine bodyPost_ret (v := .tuple #[.agg #[.int .u8 7, .int .i64 (0), .int .i64 c], .slice (some ⟨w.heap.size + 1 + 1 + 1 + 1 + 1 + 1, 0, none⟩) 1 1]) (by simp [results, Try.results25, go_sem]) rfl ⟨_, rfl, ?_, ?_⟩
  · exact ((Outs.new (by simp) (by omega) (by rfl) (by rfl)).alloc _).alloc _
  · repeat (first | exact Below.refl _ _ | refine Below.al _ (by simp; try omega) ?_ | refine Below.drew ?_)

set_option maxHeartbeats 2000000 in
theorem step_6_t (wt c ic : Int)  (w : World) (hm : mayB 6 wt c = true) : Calls Try.prog 25 #[.agg #[.int .u8 6, .int .i64 wt, .int .i64 c], .agg #[.int .u8 5, .int .i64 ic, .int .u8 9]] w (RetMO w ⟨7, 0, c⟩ [⟨7, 0, 0, 0⟩]) := by
  go_enter Try.func25, Try.ntmps25
  go_wp2_with (first | (go_at_call 14; refine (may_any _ _ _ _).mono ?_; rintro e w' ⟨rfl, rfl⟩) | (go_at_call 30; refine (send_any _ _ _ _).mono ?_; rintro e w' ⟨rfl, rfl⟩) | (go_at_call 34; refine (timer_any _ _ _).mono ?_; rintro e w' ⟨rfl, rfl⟩) | (go_at_call 29; refine (with_any _ _ _ _ _ _ _).mono ?_; rintro e w' ⟨rfl, rfl⟩))
  refine bodyPost_ret (v := .tuple #[.agg #[.int .u8 7, .int .i64 (0), .int .i64 c], .slice (some ⟨w.heap.size + 1 + 1 + 1 + 1 + 1 + 1, 0, none⟩) 1 1]) (by simp [results, Try.results25, go_sem]) rfl ⟨_, rfl, ?_, ?_⟩
  · exact ((Outs.new (by simp) (by omega) (by rfl) (by rfl)).alloc _).alloc _
  · repeat (first | exact Below.refl _ _ | refine Below.al _ (by simp; try omega) ?_ | refine Below.drew ?_)

set_option maxHeartbeats 2000000 in
theorem step_6_a (wt c ic : Int) (k t : Int) (h : (k == 5) = false) (w : World) (hm : mayB 6 wt c = true) : Calls Try.prog 25 #[.agg #[.int .u8 6, .int .i64 wt, .int .i64 c], .agg #[.int .u8 k, .int .i64 ic, .int .u8 t]] w (RetMO w ⟨6, wt, c⟩ []) := by
  go_enter Try.func25, Try.ntmps25
  go_wp2_with (go_at_call 14; refine (may_any _ _ _ _).mono ?_; rintro e w' ⟨rfl, rfl⟩)
  refine bodyPost_ret (v := .tuple #[.agg #[.int .u8 6, .int .i64 (wt), .int .i64 c], .slice none 0 0]) (by simp [results, Try.results25, go_sem]) rfl ⟨_, rfl, ?_, ?_⟩
  · exact Outs.none_ _ _
  · repeat (first | exact Below.refl _ _ | refine Below.al _ (by simp; try omega) ?_ | refine Below.drew ?_)

set_option maxHeartbeats 2000000 in
theorem step_6_b (wt c ic : Int) (t : Int) (h : (t == 9) = false) (w : World) (hm : mayB 6 wt c = true) : Calls Try.prog 25 #[.agg #[.int .u8 6, .int .i64 wt, .int .i64 c], .agg #[.int .u8 5, .int .i64 ic, .int .u8 t]] w (RetMO w ⟨6, wt, c⟩ []) := by
  go_enter Try.func25, Try.ntmps25
  go_wp2_with (go_at_call 14; refine (may_any _ _ _ _).mono ?_; rintro e w' ⟨rfl, rfl⟩)
  refine bodyPost_ret (v := .tuple #[.agg #[.int .u8 6, .int .i64 (wt), .int .i64 c], .slice none 0 0]) (by simp [results, Try.results25, go_sem]) rfl ⟨_, rfl, ?_, ?_⟩
  · exact Outs.none_ _ _
  · repeat (first | exact Below.refl _ _ | refine Below.al _ (by simp; try omega) ?_ | refine Below.drew ?_)

set_option maxHeartbeats 2000000 in
theorem step_4_b (wt c ic : Int) (t : Int) (h : (t == 12) = false) (w : World) (hm : mayB 4 wt c = true) : Calls Try.prog 25 #[.agg #[.int .u8 4, .int .i64 wt, .int .i64 c], .agg #[.int .u8 5, .int .i64 ic, .int .u8 t]] w (RetMO w ⟨4, wt, c⟩ []) := by
  go_enter Try.func25, Try.ntmps25
  go_wp2_with (go_at_call 14; refine (may_any _ _ _ _).mono ?_; rintro e w' ⟨rfl, rfl⟩)
  refine bodyPost_ret (v := .tuple #[.agg #[.int .u8 4, .int .i64 (wt), .int .i64 c], .slice none 0 0]) (by simp [results, Try.results25, go_sem]) rfl ⟨_, rfl, ?_, ?_⟩
  · exact Outs.none_ _ _
  · repeat (first | exact Below.refl _ _ | refine Below.al _ (by simp; try omega) ?_ | refine Below.drew ?_)

set_option maxHeartbeats 2000000 in
theorem step_4_a (wt c ic : Int) (k t : Int) (h4 : (k == 4) = false) (h : (k == 5) = false) (w : World) (hm : mayB 4 wt c = true) : Calls Try.prog 25 #[.agg #[.int .u8 4, .int .i64 wt, .int .i64 c], .agg #[.int .u8 k, .int .i64 ic, .int .u8 t]] w (RetMO w ⟨4, wt, c⟩ []) := by
  go_enter Try.func25, Try.ntmps25
  go_wp2_with (go_at_call 14; refine (may_any _ _ _ _).mono ?_; rintro e w' ⟨rfl, rfl⟩)
  refine bodyPost_ret (v := .tuple #[.agg #[.int .u8 4, .int .i64 (wt), .int .i64 c], .slice none 0 0]) (by simp [results, Try.results25, go_sem]) rfl ⟨_, rfl, ?_, ?_⟩
  · exact Outs.none_ _ _
  · repeat (first | exact Below.refl _ _ | refine Below.al _ (by simp; try omega) ?_ | refine Below.drew ?_)

set_option maxHeartbeats 2000000 in
theorem step_3_o (wt c ic : Int) (k t : Int) (k1 : (k == 1) = false) (k4 : (k == 4) = false) (k6 : (k == 6) = false) (w : World) (hm : mayB 3 wt c = true) : Calls Try.prog 25 #[.agg #[.int .u8 3, .int .i64 wt, .int .i64 c], .agg #[.int .u8 k, .int .i64 ic, .int .u8 t]] w (RetMO w ⟨3, wt, c⟩ []) := by
  go_enter Try.func25, Try.ntmps25
  go_wp2_with (go_at_call 14; refine (may_any _ _ _ _).mono ?_; rintro e w' ⟨rfl, rfl⟩)
  refine bodyPost_ret (v := .tuple #[.agg #[.int .u8 3, .int .i64 (wt), .int .i64 c], .slice none 0 0]) (by simp [results, Try.results25, go_sem]) rfl ⟨_, rfl, ?_, ?_⟩
  · exact Outs.none_ _ _
  · repeat (first | exact Below.refl _ _ | refine Below.al _ (by simp; try omega) ?_ | refine Below.drew ?_)

set_option maxHeartbeats 2000000 in
theorem step_4_c (wt c ic t : Int) (w : World) (hm : mayB 4 wt c = true) (hc : classOf ic = 3) : Calls Try.prog 25 #[.agg #[.int .u8 4, .int .i64 wt, .int .i64 c], .agg #[.int .u8 4, .int .i64 ic, .int .u8 t]] w (RetMO w ⟨4, wt, ic⟩ [⟨1, ic, 0, 0⟩]) := by
  have HC := Lib.hid hc; clear hc
  go_enter Try.func25, Try.ntmps25
  go_wp2_with (first | (go_at_call 14; refine (may_any _ _ _ _).mono ?_; rintro e w' ⟨rfl, rfl⟩) | (go_at_call 28; refine (class_any _ _).mono ?_; rw [HC.out]; rintro e w' ⟨rfl, rfl⟩) | fail)
  go_region_held3 (fun w' => w'.cell? ⟨w.heap.size, 0, none⟩ = some (.int .u8 4) ∧ w'.cell? ⟨w.heap.size, 1, none⟩ = some (.int .i64 wt) ∧ w'.cell? ⟨w.heap.size, 2, none⟩ = some (.int .i64 ic)) (first | (go_simp; done) | go_keep)
    (first | (go_at_call 30; refine (send_any _ _ _ _).mono ?_; rintro e w' ⟨rfl, rfl⟩) | (go_at_call 34; refine (timer_any _ _ _).mono ?_; rintro e w' ⟨rfl, rfl⟩) | (go_at_call 29; refine (with_any _ _ _ _ _ _ _).mono ?_; rintro e w' ⟨rfl, rfl⟩))
  go_wp2
  refine bodyPost_ret (v := .tuple #[.agg #[.int .u8 4, .int .i64 wt, .int .i64 ic], .slice (some ⟨w.heap.size + 1 + 1 + 1 + 1 + 1 + 1 + 1 + 1, 0, none⟩) 1 1]) (by simp [results, Try.results25, go_sem]) rfl ⟨_, rfl, ?_, ?_⟩
  · exact Outs.drew (((Outs.new (by simp) (by omega) (by rfl) (by rfl)).alloc _).alloc _)
  · repeat (first | exact Below.refl _ _ | refine Below.al _ (by simp; try omega) ?_ | refine Below.drew ?_)

set_option maxHeartbeats 2000000 in
theorem step_4_d (wt c ic t : Int) (w : World) (hm : mayB 4 wt c = true) (hc : (classOf ic == 3) = false) : Calls Try.prog 25 #[.agg #[.int .u8 4, .int .i64 wt, .int .i64 c], .agg #[.int .u8 4, .int .i64 ic, .int .u8 t]] w (RetMO w ⟨4, wt, c⟩ []) := by
  go_enter Try.func25, Try.ntmps25
  go_wp2_with (first | (go_at_call 14; refine (may_any _ _ _ _).mono ?_; rintro e w' ⟨rfl, rfl⟩) | (go_at_call 28; refine (class_any _ _).mono ?_; rintro e w' ⟨rfl, rfl⟩))
  refine bodyPost_ret (v := .tuple #[.agg #[.int .u8 4, .int .i64 wt, .int .i64 c], .slice none 0 0]) (by simp [results, Try.results25, go_sem]) rfl ⟨_, rfl, ?_, ?_⟩
  · exact Outs.none_ _ _
  · repeat (first | exact Below.refl _ _ | refine Below.al _ (by simp; try omega) ?_ | refine Below.drew ?_)

end Go.Proofs.Ytgjhnaionalbpaa
