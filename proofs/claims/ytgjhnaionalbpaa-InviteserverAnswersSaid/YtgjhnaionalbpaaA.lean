/- Contracts of the small functions of inviteserver: class, with, send, timer, Start; the reference's Start and From. -/
import Derived.Test.YtgjhnaionalbpaaW
import Derived.Deep.RegionHeld3
namespace Go.Proofs.Ytgjhnaionalbpaa
open Go.RowKit

theorem Outs.drew {w : World} {lo : Nat} {v : Value} {l : List Out} (h : Outs w lo v l) : Outs w.drew lo v l := h

def classOf (c : Int) : Int := if c < 100 ∨ 699 < c then 0 else if c = 100 then 1 else if c < 200 then 2 else if c < 300 then 3 else 4

theorem ret_int {k : IntKind} {a b : Int} (h : a = b) : Ending.returned (.int k a) = .returned (.int k b) := by rw [h]
theorem ret_bool {a b : Bool} (h : a = b) : Ending.returned (.bool a) = .returned (.bool b) := by rw [h]

set_option maxHeartbeats 400000 in
theorem class_any (c : Int) (w : World) :
    Calls Try.prog 28 #[.int .i64 c] w fun e w' => e = .returned (.int .i64 (classOf c)) ∧ w = w' := by
  by_cases h1 : c < 100
  · have H := Lib.hid (show classOf c = 0 by simp [classOf, h1])
    go_enter Try.func28, Try.ntmps28
    go_wp2
    go_ret
    exact ⟨ret_int H.out.symm, rfl⟩
  by_cases h2 : 699 < c
  · have H := Lib.hid (show classOf c = 0 by simp [classOf, h2])
    go_enter Try.func28, Try.ntmps28
    go_wp2
    go_ret
    exact ⟨ret_int H.out.symm, rfl⟩
  by_cases h0 : c = 100
  · subst h0
    go_enter Try.func28, Try.ntmps28
    go_wp2
    go_ret
    exact ⟨rfl, rfl⟩
  have g0 : (c == 100) = false := by simp [h0]
  by_cases h3 : c < 200
  · have H := Lib.hid (show classOf c = 2 by simp [classOf, h1, h2, h3, h0])
    go_enter Try.func28, Try.ntmps28
    go_wp2
    go_ret
    exact ⟨ret_int H.out.symm, rfl⟩
  by_cases h4 : c < 300
  · have H := Lib.hid (show classOf c = 3 by simp [classOf, h1, h2, h3, h4, h0])
    go_enter Try.func28, Try.ntmps28
    go_wp2
    go_ret
    exact ⟨ret_int H.out.symm, rfl⟩
  · have H := Lib.hid (show classOf c = 4 by simp [classOf, h1, h2, h3, h4, h0])
    go_enter Try.func28, Try.ntmps28
    go_wp2
    go_ret
    exact ⟨ret_int H.out.symm, rfl⟩

theorem timer_any (t a : Int) (w : World) :
    Calls Try.prog 34 #[.int .u8 t, .int .i64 a] w fun e w' => e = .returned (.agg #[.int .u8 4, .int .i64 0, .int .u8 t, .int .i64 a]) ∧ w' = w.alloc (.cells #[.int .u8 4, .int .i64 0, .int .u8 t, .int .i64 a] 48) := by
  go_enter Try.func34, Try.ntmps34
  go_wp2
  exact bodyPost_ret (v := .agg #[.int .u8 4, .int .i64 0, .int .u8 t, .int .i64 a]) (by simp [results, Try.results34, go_sem]) rfl ⟨rfl, rfl⟩

theorem send_any (s wt c : Int) (w : World) :
    Calls Try.prog 30 #[.agg #[.int .u8 s, .int .i64 wt, .int .i64 c]] w fun e w' => e = .returned (.agg #[.int .u8 1, .int .i64 c, .int .u8 0, .int .i64 0]) ∧ w' = (w.alloc (.cells #[.int .u8 s, .int .i64 wt, .int .i64 c] 26)).alloc (.cells #[.int .u8 1, .int .i64 c, .int .u8 0, .int .i64 0] 48) := by
  go_enter Try.func30, Try.ntmps30
  go_wp2
  exact bodyPost_ret (v := .agg #[.int .u8 1, .int .i64 c, .int .u8 0, .int .i64 0]) (by simp [results, Try.results30, go_sem]) rfl ⟨rfl, rfl⟩

theorem with_any (s wt c : Int) (A : Option Addr) (n cp : Nat) (w : World) :
    Calls Try.prog 29 #[.agg #[.int .u8 s, .int .i64 wt, .int .i64 c], .slice A n cp] w fun e w' => e = .returned (.tuple #[.agg #[.int .u8 s, .int .i64 wt, .int .i64 c], .slice A n cp]) ∧ w' = (w.alloc (.cells #[.int .u8 s, .int .i64 wt, .int .i64 c] 26)).alloc (.cells #[.int .u8 s, .int .i64 wt, .int .i64 c] 26) := by
  go_enter Try.func29, Try.ntmps29
  go_wp2
  exact bodyPost_ret (v := .tuple #[.agg #[.int .u8 s, .int .i64 wt, .int .i64 c], .slice A n cp]) (by simp [results, Try.results29, go_sem]) rfl ⟨rfl, rfl⟩

def fromB (n a b : Int) : Bool := decide (a ≤ n ∧ n ≤ b)
set_option maxHeartbeats 400000 in
theorem from_any (n a b : Int) (w : World) : Calls Try.prog 39 #[.int .i64 n, .int .i64 a, .int .i64 b] w fun e w' => e = .returned (.bool (fromB n a b)) ∧ w = w' := by
  by_cases h1 : a ≤ n
  · have H := Lib.hid (show fromB n a b = decide (n ≤ b) by simp [fromB, h1])
    go_enter Try.func39, Try.ntmps39
    go_wp2
    go_ret
    exact ⟨ret_bool H.out.symm, rfl⟩
  · have H := Lib.hid (show fromB n a b = false by simp [fromB, h1])
    go_enter Try.func39, Try.ntmps39
    go_wp2
    go_ret
    exact ⟨ret_bool H.out.symm, rfl⟩

set_option maxHeartbeats 400000 in
theorem rstart_any (w : World) : Calls Try.prog 19 #[] w (RetMO w ⟨3, 0, 100⟩ [⟨3, 0, 0, 0⟩, ⟨1, 100, 0, 0⟩]) := by
  go_enter Try.func19, Try.ntmps19
  go_wp2
  refine bodyPost_ret (v := .tuple #[.agg #[.int .u8 3, .int .i64 0, .int .i64 100], .slice (some ⟨w.heap.size + 1, 0, none⟩) 2 2]) (by simp [results, Try.results19, go_sem]) rfl ⟨_, rfl, ?_, ?_⟩
  · exact Outs.new (by simp) (by omega) (by rfl) (by rfl)
  · repeat (first | exact Below.refl _ _ | refine Below.al _ (by simp; try omega) ?_)

set_option maxHeartbeats 400000 in
theorem start_any (w : World) : Calls Try.prog 18 #[] w (RetMO w ⟨3, 0, 100⟩ [⟨3, 0, 0, 0⟩, ⟨1, 100, 0, 0⟩]) := by
  go_enter Try.func18, Try.ntmps18
  go_wp2_with fail
  go_region_held3 (fun w' => w'.cell? ⟨w.heap.size + 1, 0, none⟩ = some (.int .u8 3) ∧ w'.cell? ⟨w.heap.size + 1, 1, none⟩ = some (.int .i64 0) ∧ w'.cell? ⟨w.heap.size + 1, 2, none⟩ = some (.int .i64 100)) (first | (go_simp; done) | go_keep)
    (first | (go_at_call 30; refine (send_any _ _ _ _).mono ?_; rintro e w' ⟨rfl, rfl⟩) | (go_at_call 29; refine (with_any _ _ _ _ _ _ _).mono ?_; rintro e w' ⟨rfl, rfl⟩))
  go_wp2
  refine bodyPost_ret (v := .tuple #[.agg #[.int .u8 3, .int .i64 0, .int .i64 100], .slice (some ⟨w.heap.size + 1 + 1 + 1 + 1, 0, none⟩) 2 2]) (by simp [results, Try.results18, go_sem]) rfl ⟨_, rfl, ?_, ?_⟩
  · exact Outs.drew (((Outs.new (by simp) (by omega) (by rfl) (by rfl)).alloc _).alloc _)
  · repeat (first | exact Below.refl _ _ | refine Below.al _ (by simp; try omega) ?_ | refine Below.drew ?_)
end Go.Proofs.Ytgjhnaionalbpaa
