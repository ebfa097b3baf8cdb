/- Contracts of inviteserver's answered and fired. -/
import Derived.Test.YtgjhnaionalbpaaB
namespace Go.Proofs.Ytgjhnaionalbpaa
open Go.RowKit

def answS (m : Mach) (k : Int) : Mach × List Out :=
  if 101 ≤ k ∧ k ≤ 199 then (⟨3, 0, k⟩, [⟨1, k, 0, 0⟩])
  else if 200 ≤ k ∧ k ≤ 299 then (⟨4, 0, k⟩, [⟨1, k, 0, 0⟩, ⟨4, 0, 12, 32000⟩])
  else if 300 ≤ k ∧ k ≤ 699 then (⟨5, 500, k⟩, [⟨1, k, 0, 0⟩, ⟨4, 0, 7, 500⟩, ⟨4, 0, 8, 32000⟩])
  else (m, [])

set_option maxHeartbeats 2000000 in
theorem answ_2 (s wt c k : Int) (w : World) (hc : classOf k = 2) : Calls Try.prog 36 #[.agg #[.int .u8 s, .int .i64 wt, .int .i64 c], .int .i64 k] w (RetMO w ⟨3, 0, k⟩ [⟨1, k, 0, 0⟩]) := by
  have HC := Lib.hid hc; clear hc
  go_enter Try.func36, Try.ntmps36
  go_wp2_with (first | (go_at_call 28; refine (class_any _ _).mono ?_; rw [HC.out]; rintro e w' ⟨rfl, rfl⟩) | fail)
  go_region_held3 (fun w' => w'.cell? ⟨w.heap.size + 1 + 1, 0, none⟩ = some (.int .u8 3) ∧ w'.cell? ⟨w.heap.size + 1 + 1, 1, none⟩ = some (.int .i64 0) ∧ w'.cell? ⟨w.heap.size + 1 + 1, 2, none⟩ = some (.int .i64 k)) (first | (go_simp; done) | go_keep)
    (first | (go_at_call 30; refine (send_any _ _ _ _).mono ?_; rintro e w' ⟨rfl, rfl⟩) | (go_at_call 34; refine (timer_any _ _ _).mono ?_; rintro e w' ⟨rfl, rfl⟩) | (go_at_call 29; refine (with_any _ _ _ _ _ _ _).mono ?_; rintro e w' ⟨rfl, rfl⟩))
  go_wp2
  refine bodyPost_ret (v := .tuple #[.agg #[.int .u8 3, .int .i64 0, .int .i64 k], .slice (some ⟨w.heap.size + 1 + 1 + 1 + 1 + 1, 0, none⟩) 1 1]) (by simp [results, Try.results36, go_sem]) rfl ⟨_, rfl, ?_, ?_⟩
  · exact Outs.drew (((Outs.new (by simp) (by omega) (by rfl) (by rfl)).alloc _).alloc _)
  · repeat (first | exact Below.refl _ _ | refine Below.al _ (by simp; try omega) ?_ | refine Below.drew ?_)

set_option maxHeartbeats 2000000 in
theorem answ_3 (s wt c k : Int) (w : World) (hc : classOf k = 3) : Calls Try.prog 36 #[.agg #[.int .u8 s, .int .i64 wt, .int .i64 c], .int .i64 k] w (RetMO w ⟨4, 0, k⟩ [⟨1, k, 0, 0⟩, ⟨4, 0, 12, 32000⟩]) := by
  have HC := Lib.hid hc; clear hc
  go_enter Try.func36, Try.ntmps36
  go_wp2_with (first | (go_at_call 28; refine (class_any _ _).mono ?_; rw [HC.out]; rintro e w' ⟨rfl, rfl⟩) | fail)
  go_region_held3 (fun w' => w'.cell? ⟨w.heap.size + 1 + 1, 0, none⟩ = some (.int .u8 4) ∧ w'.cell? ⟨w.heap.size + 1 + 1, 1, none⟩ = some (.int .i64 0) ∧ w'.cell? ⟨w.heap.size + 1 + 1, 2, none⟩ = some (.int .i64 k)) (first | (go_simp; done) | go_keep)
    (first | (go_at_call 30; refine (send_any _ _ _ _).mono ?_; rintro e w' ⟨rfl, rfl⟩) | (go_at_call 34; refine (timer_any _ _ _).mono ?_; rintro e w' ⟨rfl, rfl⟩) | (go_at_call 29; refine (with_any _ _ _ _ _ _ _).mono ?_; rintro e w' ⟨rfl, rfl⟩))
  go_wp2
  refine bodyPost_ret (v := .tuple #[.agg #[.int .u8 4, .int .i64 0, .int .i64 k], .slice (some ⟨w.heap.size + 1 + 1 + 1 + 1 + 1 + 1, 0, none⟩) 2 2]) (by simp [results, Try.results36, go_sem]) rfl ⟨_, rfl, ?_, ?_⟩
  · exact Outs.drew (((Outs.new (by simp) (by omega) (by rfl) (by rfl)).alloc _).alloc _)
  · repeat (first | exact Below.refl _ _ | refine Below.al _ (by simp; try omega) ?_ | refine Below.drew ?_)

set_option maxHeartbeats 2000000 in
theorem answ_4 (s wt c k : Int) (w : World) (hc : classOf k = 4) : Calls Try.prog 36 #[.agg #[.int .u8 s, .int .i64 wt, .int .i64 c], .int .i64 k] w (RetMO w ⟨5, 500, k⟩ [⟨1, k, 0, 0⟩, ⟨4, 0, 7, 500⟩, ⟨4, 0, 8, 32000⟩]) := by
  have HC := Lib.hid hc; clear hc
  go_enter Try.func36, Try.ntmps36
  go_wp2_with (first | (go_at_call 28; refine (class_any _ _).mono ?_; rw [HC.out]; rintro e w' ⟨rfl, rfl⟩) | fail)
  go_region_held3 (fun w' => w'.cell? ⟨w.heap.size + 1 + 1, 0, none⟩ = some (.int .u8 5) ∧ w'.cell? ⟨w.heap.size + 1 + 1, 1, none⟩ = some (.int .i64 500) ∧ w'.cell? ⟨w.heap.size + 1 + 1, 2, none⟩ = some (.int .i64 k)) (first | (go_simp; done) | go_keep)
    (first | (go_at_call 30; refine (send_any _ _ _ _).mono ?_; rintro e w' ⟨rfl, rfl⟩) | (go_at_call 34; refine (timer_any _ _ _).mono ?_; rintro e w' ⟨rfl, rfl⟩) | (go_at_call 29; refine (with_any _ _ _ _ _ _ _).mono ?_; rintro e w' ⟨rfl, rfl⟩))
  go_wp2
  refine bodyPost_ret (v := .tuple #[.agg #[.int .u8 5, .int .i64 500, .int .i64 k], .slice (some ⟨w.heap.size + 1 + 1 + 1 + 1 + 1 + 1 + 1, 0, none⟩) 3 3]) (by simp [results, Try.results36, go_sem]) rfl ⟨_, rfl, ?_, ?_⟩
  · exact Outs.drew (((Outs.new (by simp) (by omega) (by rfl) (by rfl)).alloc _).alloc _)
  · repeat (first | exact Below.refl _ _ | refine Below.al _ (by simp; try omega) ?_ | refine Below.drew ?_)

set_option maxHeartbeats 2000000 in
theorem answ_0 (s wt c k : Int) (w : World) (hc : classOf k = 0) : Calls Try.prog 36 #[.agg #[.int .u8 s, .int .i64 wt, .int .i64 c], .int .i64 k] w (RetMO w ⟨s, wt, c⟩ []) := by
  have HC := Lib.hid hc; clear hc
  go_enter Try.func36, Try.ntmps36
  go_wp2_with (go_at_call 28; refine (class_any _ _).mono ?_; rw [HC.out]; rintro e w' ⟨rfl, rfl⟩)
  refine bodyPost_ret (v := .tuple #[.agg #[.int .u8 s, .int .i64 wt, .int .i64 c], .slice none 0 0]) (by simp [results, Try.results36, go_sem]) rfl ⟨_, rfl, ?_, ?_⟩
  · exact Outs.none_ _ _
  · repeat (first | exact Below.refl _ _ | refine Below.al _ (by simp; try omega) ?_ | refine Below.drew ?_)

set_option maxHeartbeats 2000000 in
theorem answ_1 (s wt c k : Int) (w : World) (hc : classOf k = 1) : Calls Try.prog 36 #[.agg #[.int .u8 s, .int .i64 wt, .int .i64 c], .int .i64 k] w (RetMO w ⟨s, wt, c⟩ []) := by
  have HC := Lib.hid hc; clear hc
  go_enter Try.func36, Try.ntmps36
  go_wp2_with (go_at_call 28; refine (class_any _ _).mono ?_; rw [HC.out]; rintro e w' ⟨rfl, rfl⟩)
  refine bodyPost_ret (v := .tuple #[.agg #[.int .u8 s, .int .i64 wt, .int .i64 c], .slice none 0 0]) (by simp [results, Try.results36, go_sem]) rfl ⟨_, rfl, ?_, ?_⟩
  · exact Outs.none_ _ _
  · repeat (first | exact Below.refl _ _ | refine Below.al _ (by simp; try omega) ?_ | refine Below.drew ?_)

theorem answ_any (s wt c k : Int) (w : World) : Calls Try.prog 36 #[.agg #[.int .u8 s, .int .i64 wt, .int .i64 c], .int .i64 k] w (RetMO w (answS ⟨s, wt, c⟩ k).1 (answS ⟨s, wt, c⟩ k).2) := by
  rcases class_cases k with ⟨h, hc⟩ | ⟨h, hc⟩ | ⟨h, hc⟩ | ⟨h, hc⟩ | ⟨h, hc⟩
  · have e : answS ⟨s, wt, c⟩ k = (⟨s, wt, c⟩, []) := by unfold answS; rw [if_neg (by omega), if_neg (by omega), if_neg (by omega)]
    rw [e]; exact answ_0 s wt c k w hc
  · have e : answS ⟨s, wt, c⟩ k = (⟨s, wt, c⟩, []) := by unfold answS; rw [if_neg (by omega), if_neg (by omega), if_neg (by omega)]
    rw [e]; exact answ_1 s wt c k w hc
  · have e : answS ⟨s, wt, c⟩ k = (⟨3, 0, k⟩, [⟨1, k, 0, 0⟩]) := by unfold answS; rw [if_pos h]
    rw [e]; exact answ_2 s wt c k w hc
  · have e : answS ⟨s, wt, c⟩ k = (⟨4, 0, k⟩, [⟨1, k, 0, 0⟩, ⟨4, 0, 12, 32000⟩]) := by unfold answS; rw [if_neg (by omega), if_pos h]
    rw [e]; exact answ_3 s wt c k w hc
  · have e : answS ⟨s, wt, c⟩ k = (⟨5, 500, k⟩, [⟨1, k, 0, 0⟩, ⟨4, 0, 7, 500⟩, ⟨4, 0, 8, 32000⟩]) := by unfold answS; rw [if_neg (by omega), if_neg (by omega), if_pos h]
    rw [e]; exact answ_4 s wt c k w hc

end Go.Proofs.Ytgjhnaionalbpaa
