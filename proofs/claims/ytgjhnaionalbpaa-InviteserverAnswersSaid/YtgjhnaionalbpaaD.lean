/- Contracts of inviteserver's fired and Step. -/
import Derived.Test.YtgjhnaionalbpaaC
namespace Go.Proofs.Ytgjhnaionalbpaa
open Go.RowKit

def firedS (m : Mach) (t : Int) : Mach × List Out :=
  if t = 7 then (⟨m.st, min (2 * m.wait) 4000, m.code⟩, [⟨1, m.code, 0, 0⟩, ⟨4, 0, 7, min (2 * m.wait) 4000⟩])
  else if t = 8 then (⟨7, 0, m.code⟩, [⟨5, 0, 0, 0⟩, ⟨7, 0, 0, 0⟩])
  else (m, [])

set_option maxHeartbeats 2000000 in
theorem fired_7a (s wt c : Int) (w : World) (h0 : 0 ≤ wt) (h1 : wt ≤ 4000) (h2 : 2 * wt ≤ 4000) : Calls Try.prog 35 #[.agg #[.int .u8 s, .int .i64 wt, .int .i64 c], .int .u8 7] w (RetMO w ⟨s, 2 * wt, c⟩ [⟨1, c, 0, 0⟩, ⟨4, 0, 7, 2 * wt⟩]) := by
  go_enter Try.func35, Try.ntmps35
  go_wp2_with fail
  go_region_held3 (fun w' => w'.cell? ⟨w.heap.size, 0, none⟩ = some (.int .u8 s) ∧ w'.cell? ⟨w.heap.size, 1, none⟩ = some (.int .i64 (2 * wt)) ∧ w'.cell? ⟨w.heap.size, 2, none⟩ = some (.int .i64 c)) (first | (go_simp; done) | go_keep)
    (first | (go_at_call 30; refine (send_any _ _ _ _).mono ?_; rintro e w' ⟨rfl, rfl⟩) | (go_at_call 34; refine (timer_any _ _ _).mono ?_; rintro e w' ⟨rfl, rfl⟩) | (go_at_call 29; refine (with_any _ _ _ _ _ _ _).mono ?_; rintro e w' ⟨rfl, rfl⟩))
  go_wp2
  refine bodyPost_ret (v := .tuple #[.agg #[.int .u8 s, .int .i64 (2 * wt), .int .i64 c], .slice (some ⟨w.heap.size + 1 + 1 + 1 + 1 + 1, 0, none⟩) 2 2]) (by simp [results, Try.results35, go_sem]) rfl ⟨_, rfl, ?_, ?_⟩
  · exact Outs.drew (((Outs.new (by simp) (by omega) (by rfl) (by rfl)).alloc _).alloc _)
  · repeat (first | exact Below.refl _ _ | refine Below.al _ (by simp; try omega) ?_ | refine Below.drew ?_)

set_option maxHeartbeats 2000000 in
theorem fired_7b (s wt c : Int) (w : World) (h0 : 0 ≤ wt) (h1 : wt ≤ 4000) (h2 : 4000 < 2 * wt) : Calls Try.prog 35 #[.agg #[.int .u8 s, .int .i64 wt, .int .i64 c], .int .u8 7] w (RetMO w ⟨s, 4000, c⟩ [⟨1, c, 0, 0⟩, ⟨4, 0, 7, 4000⟩]) := by
  go_enter Try.func35, Try.ntmps35
  go_wp2_with fail
  go_region_held3 (fun w' => w'.cell? ⟨w.heap.size, 0, none⟩ = some (.int .u8 s) ∧ w'.cell? ⟨w.heap.size, 1, none⟩ = some (.int .i64 (4000)) ∧ w'.cell? ⟨w.heap.size, 2, none⟩ = some (.int .i64 c)) (first | (go_simp; done) | go_keep)
    (first | (go_at_call 30; refine (send_any _ _ _ _).mono ?_; rintro e w' ⟨rfl, rfl⟩) | (go_at_call 34; refine (timer_any _ _ _).mono ?_; rintro e w' ⟨rfl, rfl⟩) | (go_at_call 29; refine (with_any _ _ _ _ _ _ _).mono ?_; rintro e w' ⟨rfl, rfl⟩))
  go_wp2
  refine bodyPost_ret (v := .tuple #[.agg #[.int .u8 s, .int .i64 (4000), .int .i64 c], .slice (some ⟨w.heap.size + 1 + 1 + 1 + 1 + 1, 0, none⟩) 2 2]) (by simp [results, Try.results35, go_sem]) rfl ⟨_, rfl, ?_, ?_⟩
  · exact Outs.drew (((Outs.new (by simp) (by omega) (by rfl) (by rfl)).alloc _).alloc _)
  · repeat (first | exact Below.refl _ _ | refine Below.al _ (by simp; try omega) ?_ | refine Below.drew ?_)

set_option maxHeartbeats 2000000 in
theorem fired_8 (s wt c : Int) (w : World) : Calls Try.prog 35 #[.agg #[.int .u8 s, .int .i64 wt, .int .i64 c], .int .u8 8] w (RetMO w ⟨7, 0, c⟩ [⟨5, 0, 0, 0⟩, ⟨7, 0, 0, 0⟩]) := by
  go_enter Try.func35, Try.ntmps35
  go_wp2_with (first | (go_at_call 30; refine (send_any _ _ _ _).mono ?_; rintro e w' ⟨rfl, rfl⟩) | (go_at_call 34; refine (timer_any _ _ _).mono ?_; rintro e w' ⟨rfl, rfl⟩) | (go_at_call 29; refine (with_any _ _ _ _ _ _ _).mono ?_; rintro e w' ⟨rfl, rfl⟩))
  refine bodyPost_ret (v := .tuple #[.agg #[.int .u8 7, .int .i64 0, .int .i64 c], .slice (some ⟨w.heap.size + 1 + 1 + 1, 0, none⟩) 2 2]) (by simp [results, Try.results35, go_sem]) rfl ⟨_, rfl, ?_, ?_⟩
  · exact ((Outs.new (by simp) (by omega) (by rfl) (by rfl)).alloc _).alloc _
  · repeat (first | exact Below.refl _ _ | refine Below.al _ (by simp; try omega) ?_ | refine Below.drew ?_)

set_option maxHeartbeats 2000000 in
theorem fired_o (s wt c t : Int) (w : World) (h7 : (t == 7) = false) (h8 : (t == 8) = false) : Calls Try.prog 35 #[.agg #[.int .u8 s, .int .i64 wt, .int .i64 c], .int .u8 t] w (RetMO w ⟨s, wt, c⟩ []) := by
  go_enter Try.func35, Try.ntmps35
  go_wp2
  refine bodyPost_ret (v := .tuple #[.agg #[.int .u8 s, .int .i64 wt, .int .i64 c], .slice none 0 0]) (by simp [results, Try.results35, go_sem]) rfl ⟨_, rfl, ?_, ?_⟩
  · exact Outs.none_ _ _
  · repeat (first | exact Below.refl _ _ | refine Below.al _ (by simp; try omega) ?_ | refine Below.drew ?_)

theorem fired_any (s wt c t : Int) (w : World) (h0 : 0 ≤ wt) (h1 : wt ≤ 4000) : Calls Try.prog 35 #[.agg #[.int .u8 s, .int .i64 wt, .int .i64 c], .int .u8 t] w (RetMO w (firedS ⟨s, wt, c⟩ t).1 (firedS ⟨s, wt, c⟩ t).2) := by
  by_cases h7 : t = 7
  · subst h7
    by_cases h2 : 2 * wt ≤ 4000
    · have e : min (2 * wt) 4000 = 2 * wt := by omega
      simpa [firedS, e] using fired_7a s wt c w h0 h1 h2
    · have e : min (2 * wt) 4000 = 4000 := by omega
      simpa [firedS, e] using fired_7b s wt c w h0 h1 (by omega)
  by_cases h8 : t = 8
  · subst h8
    simpa [firedS] using fired_8 s wt c w
  simpa [firedS, h7, h8] using fired_o s wt c t w (by simp [h7]) (by simp [h8])

end Go.Proofs.Ytgjhnaionalbpaa
