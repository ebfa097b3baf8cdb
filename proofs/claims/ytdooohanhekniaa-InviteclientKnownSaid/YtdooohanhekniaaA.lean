/- Contracts of the small functions of inviteclient: class, timer, keyOf, May, Start, and of the reference's Start. -/
import Derived.Test.YtdooohanhekniaaW
namespace Go.Proofs.Ytdooohanhekniaa
open Go.RowKit

def classOf (c : Int) : Int := if c < 100 ∨ 699 < c then 0 else if c < 200 then 1 else if c < 300 then 2 else 3

theorem ret_int {k : IntKind} {a b : Int} (h : a = b) : Ending.returned (.int k a) = .returned (.int k b) := by rw [h]
theorem ret_bool {a b : Bool} (h : a = b) : Ending.returned (.bool a) = .returned (.bool b) := by rw [h]

set_option maxHeartbeats 400000 in
theorem class_any (c : Int) (w : World) :
    Calls Try.prog 26 #[.int .i64 c] w fun e w' => e = .returned (.int .i64 (classOf c)) ∧ w = w' := by
  by_cases h1 : c < 100
  · have H := Lib.hid (show classOf c = 0 by simp [classOf, h1])
    go_enter Try.func26, Try.ntmps26
    go_wp2
    go_ret
    exact ⟨ret_int H.out.symm, rfl⟩
  · by_cases h2 : 699 < c
    · have H := Lib.hid (show classOf c = 0 by simp [classOf, h2])
      go_enter Try.func26, Try.ntmps26
      go_wp2
      go_ret
      exact ⟨ret_int H.out.symm, rfl⟩
    · by_cases h3 : c < 200
      · have H := Lib.hid (show classOf c = 1 by simp [classOf, h1, h2, h3])
        go_enter Try.func26, Try.ntmps26
        go_wp2
        go_ret
        exact ⟨ret_int H.out.symm, rfl⟩
      · by_cases h4 : c < 300
        · have H := Lib.hid (show classOf c = 2 by simp [classOf, h1, h2, h3, h4])
          go_enter Try.func26, Try.ntmps26
          go_wp2
          go_ret
          exact ⟨ret_int H.out.symm, rfl⟩
        · have H := Lib.hid (show classOf c = 3 by simp [classOf, h1, h2, h3, h4])
          go_enter Try.func26, Try.ntmps26
          go_wp2
          go_ret
          exact ⟨ret_int H.out.symm, rfl⟩

theorem timer_any (t a : Int) (w : World) :
    Calls Try.prog 27 #[.int .u8 t, .int .i64 a] w fun e w' => e = .returned (.agg #[.int .u8 4, .int .i64 0, .int .u8 t, .int .i64 a]) ∧ w' = w.alloc (.cells #[.int .u8 4, .int .i64 0, .int .u8 t, .int .i64 a] 40) := by
  go_enter Try.func27, Try.ntmps27
  go_wp2
  exact bodyPost_ret (v := .agg #[.int .u8 4, .int .i64 0, .int .u8 t, .int .i64 a]) (by simp [results, Try.results27, go_sem]) rfl ⟨rfl, rfl⟩

set_option maxHeartbeats 400000 in
theorem start_any (w : World) : Calls Try.prog 16 #[] w (RetMO w ⟨1, 500, 0⟩ [⟨1, 0, 0, 0⟩, ⟨4, 0, 1, 500⟩, ⟨4, 0, 2, 32000⟩]) := by
  go_enter Try.func16, Try.ntmps16
  go_wp2_with (go_at_call 27; refine (timer_any _ _ _).mono ?_; rintro e w' ⟨rfl, rfl⟩)
  refine bodyPost_ret (v := .tuple #[.agg #[.int .u8 1, .int .i64 500, .int .i64 0], .slice (some ⟨w.heap.size + 1 + 1 + 1, 0, none⟩) 3 3]) (by simp [results, Try.results16, go_sem]) rfl ⟨_, rfl, ?_, ?_⟩
  · exact Outs.new (by simp) (by omega) (by rfl) (by rfl)
  · repeat (first | exact Below.refl _ _ | refine Below.al _ (by simp; try omega) ?_)

set_option maxHeartbeats 400000 in
theorem rstart_any (w : World) : Calls Try.prog 17 #[] w (RetMO w ⟨1, 500, 0⟩ [⟨1, 0, 0, 0⟩, ⟨4, 0, 1, 500⟩, ⟨4, 0, 2, 32000⟩]) := by
  go_enter Try.func17, Try.ntmps17
  go_wp2
  refine bodyPost_ret (v := .tuple #[.agg #[.int .u8 1, .int .i64 500, .int .i64 0], .slice (some ⟨w.heap.size + 1, 0, none⟩) 3 3]) (by simp [results, Try.results17, go_sem]) rfl ⟨_, rfl, ?_, ?_⟩
  · exact Outs.new (by simp) (by omega) (by rfl) (by rfl)
  · repeat (first | exact Below.refl _ _ | refine Below.al _ (by simp; try omega) ?_)

def keyClass (k c : Int) : Int := if k = 2 then classOf c else 0
def keyTimer (k t : Int) : Int := if k = 5 then t else 0

set_option maxHeartbeats 400000 in
theorem keyOf_any (s wt mc k c t : Int) (w : World) :
    Calls Try.prog 32 #[.agg #[.int .u8 s, .int .i64 wt, .int .i64 mc], .agg #[.int .u8 k, .int .i64 c, .int .u8 t]] w
      fun e w' => e = .returned (.agg #[.int .u8 s, .int .u8 k, .int .i64 (keyClass k c), .int .u8 (keyTimer k t)]) ∧ Below w.heap.size w w' := by
  by_cases h2 : k = 2
  · have h5 : ¬ k = 5 := by omega
    have e1 := Lib.hid (show keyClass k c = classOf c by simp [keyClass, h2])
    have e2 := Lib.hid (show keyTimer k t = 0 by simp [keyTimer, h5])
    rw [e1.out, e2.out]
    subst h2
    go_enter Try.func32, Try.ntmps32
    go_wp2_with (go_at_call 26; refine (class_any _ _).mono ?_; rintro e w' ⟨rfl, rfl⟩)
    refine bodyPost_ret (v := .agg #[.int .u8 s, .int .u8 2, .int .i64 (classOf c), .int .u8 0]) (by simp [results, Try.results32, go_sem]) rfl ⟨rfl, ?_⟩
    repeat (first | exact Below.refl _ _ | refine Below.al _ (by simp; try omega) ?_)
  · by_cases h5 : k = 5
    · have e1 := Lib.hid (show keyClass k c = 0 by simp [keyClass, h2])
      have e2 := Lib.hid (show keyTimer k t = t by simp [keyTimer, h5])
      rw [e1.out, e2.out]
      subst h5
      go_enter Try.func32, Try.ntmps32
      go_wp2
      refine bodyPost_ret (v := .agg #[.int .u8 s, .int .u8 5, .int .i64 0, .int .u8 t]) (by simp [results, Try.results32, go_sem]) rfl ⟨rfl, ?_⟩
      repeat (first | exact Below.refl _ _ | refine Below.al _ (by simp; try omega) ?_)
    · have e1 := Lib.hid (show keyClass k c = 0 by simp [keyClass, h2])
      have e2 := Lib.hid (show keyTimer k t = 0 by simp [keyTimer, h5])
      rw [e1.out, e2.out]
      have g2 : (k == 2) = false := by simp [h2]
      have g5 : (k == 5) = false := by simp [h5]
      clear h2 h5
      go_enter Try.func32, Try.ntmps32
      go_wp2
      refine bodyPost_ret (v := .agg #[.int .u8 s, .int .u8 k, .int .i64 0, .int .u8 0]) (by simp [results, Try.results32, go_sem]) rfl ⟨rfl, ?_⟩
      repeat (first | exact Below.refl _ _ | refine Below.al _ (by simp; try omega) ?_)

end Go.Proofs.Ytdooohanhekniaa
