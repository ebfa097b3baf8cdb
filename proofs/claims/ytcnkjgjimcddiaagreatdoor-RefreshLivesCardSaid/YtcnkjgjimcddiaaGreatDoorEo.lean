/- The law RefreshOne. -/
import Derived.Test.YtcnkjgjimcddiaaGreatDoorEs
namespace Go.Proofs.YtcnkjgjimcddiaaGreatDoor
open Go.RowKit

theorem start_in {S now : Int} (b0 : 90 ≤ S) (b1 : S ≤ 86400) (b2 : 0 ≤ now) (b3 : now ≤ 1099511627776) (c sd : Bool) : startV 0 S c sd now = .tuple #[.agg #[.int .i64 S, .bool (c == sd), .int .i64 now, .bool false, .bool false], .int .u8 0] := by
  unfold startV
  rw [if_neg (by simp [ivl, tmOK]; omega), if_neg (by omega)]
theorem may_in {S now : Int} (b0 : 90 ≤ S) (b1 : S ≤ 86400) (b2 : 0 ≤ now) (b3 : now ≤ 1099511627776) {o p : Bool} (h : o = true ∨ p = false) : mayR S o now p false = true := by
  unfold mayR
  rw [if_neg (by omega)]
  rcases h with rfl | rfl <;> simp [ivl, tmOK] <;> omega
theorem next_in {S now : Int} (b0 : 90 ≤ S) (b1 : S ≤ 86400) (b2 : 0 ≤ now) (b3 : now ≤ 1099511627776) {o p : Bool} (h : o = true ∨ p = false) : nextV S o now p false = .tuple #[.int .i64 (nextR S o now p), .bool true] := by
  unfold nextV
  rw [if_neg (by rw [may_in b0 b1 b2 b3 h]; simp; omega)]
theorem lim_in {S now M : Int} (b0 : 90 ≤ S) (h : limR S now = M) : now + 500 * S < M ∧ M ≤ now + 1000 * S := by
  unfold limR at h
  omega
theorem fire_send {S now N M : Int} (b0 : 90 ≤ S) (b1 : S ≤ 86400) (b2 : 0 ≤ now) (b3 : now ≤ 1099511627776) (hN : N = now + 500 * S) (hM : limR S now = M) (h : N < M) (h4 : N ≤ 1099511627776) : fireV S true now false false N = .tuple #[.agg #[.int .i64 S, .bool true, .int .i64 now, .bool true, .bool false], .int .u8 1, .int .u8 0] := by
  unfold fireV
  rw [if_neg (by rw [may_in b0 b1 b2 b3 (.inl rfl)]; simp [tmOK]; omega), if_neg (by rw [nextR_now ⟨rfl, rfl⟩]; simp; omega), if_neg (by rw [hM]; omega)]
theorem fire_bye {S now M : Int} (b0 : 90 ≤ S) (b1 : S ≤ 86400) (b2 : 0 ≤ now) (b3 : now ≤ 1099511627776) (hM : limR S now = M) {o p : Bool} (h : o = false ∨ p = true) (h2 : o = true ∨ p = false) (h4 : M ≤ 1099511627776) : fireV S o now p false M = .tuple #[.agg #[.int .i64 S, .bool o, .int .i64 now, .bool false, .bool true], .int .u8 2, .int .u8 0] := by
  have hl := lim_in b0 hM
  unfold fireV
  rw [if_neg (by rw [may_in b0 b1 b2 b3 h2]; simp [tmOK]; omega), if_neg (by rw [nextR_lim h, hM]; simp; omega), if_pos (by rw [hM]; omega)]
end Go.Proofs.YtcnkjgjimcddiaaGreatDoor
