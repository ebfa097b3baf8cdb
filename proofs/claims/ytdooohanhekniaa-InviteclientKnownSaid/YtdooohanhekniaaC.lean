/- Contracts of the functions of the reference dialtoneref12: From, May, response, ended, Step. -/
import Derived.Test.YtdooohanhekniaaB
namespace Go.Proofs.Ytdooohanhekniaa
open Go.RowKit

def fromB (n a b : Int) : Bool := decide (a ≤ n ∧ n ≤ b)
set_option maxHeartbeats 400000 in
theorem from_any (n a b : Int) (w : World) : Calls Try.prog 35 #[.int .i64 n, .int .i64 a, .int .i64 b] w fun e w' => e = .returned (.bool (fromB n a b)) ∧ w = w' := by
  by_cases h1 : a ≤ n
  · have H := Lib.hid (show fromB n a b = decide (n ≤ b) by simp [fromB, h1])
    go_enter Try.func35, Try.ntmps35
    go_wp2
    go_ret
    exact ⟨ret_bool H.out.symm, rfl⟩
  · have H := Lib.hid (show fromB n a b = false by simp [fromB, h1])
    go_enter Try.func35, Try.ntmps35
    go_wp2
    go_ret
    exact ⟨ret_bool H.out.symm, rfl⟩


theorem waitAt_le {k : Nat} (h : k < 7) : waitAt k ≤ 32000 := by
  match k, h with
  | 0, _ | 1, _ | 2, _ | 3, _ | 4, _ | 5, _ | 6, _ => decide
theorem le_waitAt {k : Nat} (h : k < 7) : 500 ≤ waitAt k := by
  match k, h with
  | 0, _ | 1, _ | 2, _ | 3, _ | 4, _ | 5, _ | 6, _ => decide
theorem two_waitAt {k : Nat} (h : k < 7) : 2 * waitAt k = waitAt (k + 1) := by
  match k, h with
  | 0, _ | 1, _ | 2, _ | 3, _ | 4, _ | 5, _ | 6, _ => decide
theorem mayB_waitc {c : Int} {k : Nat} (h : k < 7) : mayB 1 (waitAt k) c = (c == 0) := by
  match k, h with
  | 0, _ | 1, _ | 2, _ | 3, _ | 4, _ | 5, _ | 6, _ => simp [mayB, wOk, waitAt]
def RMayRel (wt : Int) (t : Value) : Prop := ∃ k : Nat, k ≤ 7 ∧ t = .int .i64 (waitAt k) ∧ ∀ j : Nat, j < k → ¬ wt = waitAt j
theorem RMayRel.next {wt : Int} {k : Nat} (hk : k < 7) (h : ∀ j : Nat, j < k → ¬ wt = waitAt j) (hn : ¬ wt = waitAt k) {x : Int} (hx : x = waitAt (k + 1)) : RMayRel wt (.int .i64 x) := by
  subst hx
  refine ⟨k + 1, by omega, rfl, fun j hj => ?_⟩
  rcases Nat.lt_succ_iff_lt_or_eq.1 hj with h1 | rfl
  · exact h j h1
  · exact hn

set_option maxHeartbeats 1000000 in
theorem rmay_1 (wt c : Int) (w : World) : Calls Try.prog 29 #[.agg #[.int .u8 1, .int .i64 wt, .int .i64 c]] w (MayPost 1 wt c w) := by
  go_enter Try.func29, Try.ntmps29
  go_wp2
  go_loop [3] (fun t => RMayRel wt t) (fun t => 64000 - (intOf t).toNat)
  case atStart => exact ⟨0, by omega, rfl, fun j hj => absurd hj (by omega)⟩
  case round =>
    obtain ⟨k, hk, rfl, hn⟩ := hrel
    have H := Lib.hid hn; clear hn
    by_cases hk7 : k = 7
    · subst hk7
      have hf := Lib.hid (show mayB 1 wt c = false from mayB_none fun j hj h => H.out j hj h.1)
      simp only [waitAt]
      go_wp2
      go_ret
      exact ⟨ret_bool hf.out.symm, rfl⟩
    · have hlt : k < 7 := by omega
      have b1 : waitAt k ≤ 32000 := waitAt_le hlt
      have b2 : 500 ≤ waitAt k := le_waitAt hlt
      by_cases hm : wt = waitAt k
      · subst hm
        have hf := Lib.hid (show mayB 1 (waitAt k) c = (c == 0) from mayB_waitc hlt)
        clear hk hk7
        go_wp2
        go_ret
        exact ⟨ret_bool hf.out.symm, rfl⟩
      · have HR := Lib.hid (show RMayRel wt (.int .i64 (2 * waitAt k)) from RMayRel.next hlt H.out hm (two_waitAt hlt))
        have hm' : (wt == waitAt k) = false := by simp [hm]
        clear hk hk7 hm
        go_wp2
        go_round
        case rel => exact HR.out
        case measure => simp [intOf]; omega

set_option maxHeartbeats 1000000 in
theorem rmay_3 (wt c : Int) (w : World) : Calls Try.prog 29 #[.agg #[.int .u8 3, .int .i64 wt, .int .i64 c]] w (MayPost 3 wt c w) := by
  by_cases hw : wt = 0
  · subst hw
    have hf := Lib.hid (show mayB 3 0 c = (c == 0) by simp [mayB])
    go_enter Try.func29, Try.ntmps29
    go_wp2_with (go_at_call 35; refine (from_any _ _ _ _).mono ?_; rintro e w' ⟨rfl, rfl⟩)
    go_ret
    exact ⟨ret_bool hf.out.symm, rfl⟩
  · have hf := Lib.hid (show mayB 3 wt c = false by simp [mayB, hw])
    have hw' : (wt == 0) = false := by simp [hw]
    go_enter Try.func29, Try.ntmps29
    go_wp2
    go_ret
    exact ⟨ret_bool hf.out.symm, rfl⟩

set_option maxHeartbeats 1000000 in
theorem rmay_4 (wt c : Int) (w : World) : Calls Try.prog 29 #[.agg #[.int .u8 4, .int .i64 wt, .int .i64 c]] w (MayPost 4 wt c w) := by
  by_cases hw : wt = 0
  · subst hw
    have hf := Lib.hid (show mayB 4 0 c = fromB c 200 299 by simp [mayB, fromB])
    go_enter Try.func29, Try.ntmps29
    go_wp2_with (go_at_call 35; refine (from_any _ _ _ _).mono ?_; rintro e w' ⟨rfl, rfl⟩)
    go_ret
    exact ⟨ret_bool hf.out.symm, rfl⟩
  · have hf := Lib.hid (show mayB 4 wt c = false by simp [mayB, hw])
    have hw' : (wt == 0) = false := by simp [hw]
    go_enter Try.func29, Try.ntmps29
    go_wp2
    go_ret
    exact ⟨ret_bool hf.out.symm, rfl⟩

set_option maxHeartbeats 1000000 in
theorem rmay_5 (wt c : Int) (w : World) : Calls Try.prog 29 #[.agg #[.int .u8 5, .int .i64 wt, .int .i64 c]] w (MayPost 5 wt c w) := by
  by_cases hw : wt = 0
  · subst hw
    have hf := Lib.hid (show mayB 5 0 c = fromB c 300 699 by simp [mayB, fromB])
    go_enter Try.func29, Try.ntmps29
    go_wp2_with (go_at_call 35; refine (from_any _ _ _ _).mono ?_; rintro e w' ⟨rfl, rfl⟩)
    go_ret
    exact ⟨ret_bool hf.out.symm, rfl⟩
  · have hf := Lib.hid (show mayB 5 wt c = false by simp [mayB, hw])
    have hw' : (wt == 0) = false := by simp [hw]
    go_enter Try.func29, Try.ntmps29
    go_wp2
    go_ret
    exact ⟨ret_bool hf.out.symm, rfl⟩

set_option maxHeartbeats 1000000 in
theorem rmay_7 (wt c : Int) (w : World) : Calls Try.prog 29 #[.agg #[.int .u8 7, .int .i64 wt, .int .i64 c]] w (MayPost 7 wt c w) := by
  by_cases hw : wt = 0
  · subst hw
    by_cases hc : c = 0
    · subst hc
      go_enter Try.func29, Try.ntmps29
      go_wp2
      go_ret
      exact ⟨rfl, rfl⟩
    · have hf := Lib.hid (show mayB 7 0 c = fromB c 200 699 by simp [mayB, hc, fromB])
      have hc' : (c == 0) = false := by simp [hc]
      clear hc
      go_enter Try.func29, Try.ntmps29
      go_wp2_with (go_at_call 35; refine (from_any _ _ _ _).mono ?_; rintro e w' ⟨rfl, rfl⟩)
      go_ret
      exact ⟨ret_bool hf.out.symm, rfl⟩
  · have hf := Lib.hid (show mayB 7 wt c = false by simp [mayB, hw])
    have hw' : (wt == 0) = false := by simp [hw]
    go_enter Try.func29, Try.ntmps29
    go_wp2
    go_ret
    exact ⟨ret_bool hf.out.symm, rfl⟩

set_option maxHeartbeats 1000000 in
theorem rmay_any (s wt c : Int) (w : World) : Calls Try.prog 29 #[.agg #[.int .u8 s, .int .i64 wt, .int .i64 c]] w (MayPost s wt c w) := by
  by_cases h1 : s = 1
  · subst h1; exact rmay_1 wt c w
  by_cases h3 : s = 3
  · subst h3; exact rmay_3 wt c w
  by_cases h4 : s = 4
  · subst h4; exact rmay_4 wt c w
  by_cases h5 : s = 5
  · subst h5; exact rmay_5 wt c w
  by_cases h7 : s = 7
  · subst h7; exact rmay_7 wt c w
  have hf := Lib.hid (show mayB s wt c = false by simp [mayB, h1, h3, h4, h5, h7])
  have g1 : (s == 1) = false := by simp [h1]
  have g3 : (s == 3) = false := by simp [h3]
  have g4 : (s == 4) = false := by simp [h4]
  have g5 : (s == 5) = false := by simp [h5]
  have g7 : (s == 7) = false := by simp [h7]
  clear h1 h3 h4 h5 h7
  go_enter Try.func29, Try.ntmps29
  go_wp2
  go_ret
  exact ⟨ret_bool hf.out.symm, rfl⟩

set_option maxHeartbeats 1000000 in
theorem resp_1_a (wt c k : Int) (w : World) (h1 : 100 ≤ k) (h2 : k ≤ 199) : Calls Try.prog 33 #[.agg #[.int .u8 1, .int .i64 wt, .int .i64 c], .int .i64 k] w (RetMO w ⟨3, 0, 0⟩ [⟨3, k, 0, 0⟩]) := by
  have f100 : fromB k 100 199 = true := by simp [fromB]; omega
  go_enter Try.func33, Try.ntmps33
  go_wp2_with (go_at_call 35; refine (from_any _ _ _ _).mono ?_; rintro e w' ⟨rfl, rfl⟩)
  go_region
  go_wp2
  refine bodyPost_ret (v := .tuple #[.agg #[.int .u8 (3), .int .i64 (0), .int .i64 (0)], .slice (some ⟨w.heap.size + 1 + 1 + 1 + 1, 0, none⟩) 1 1]) (by simp [results, Try.results33, go_sem]) rfl ⟨_, rfl, ?_, ?_⟩
  · exact Outs.new (by simp) (by omega) (by rfl) (by rfl)
  · repeat (first | exact Below.refl _ _ | refine Below.al _ (by simp; try omega) ?_ | refine Below.drew ?_)

set_option maxHeartbeats 1000000 in
theorem resp_1_b (wt c k : Int) (w : World) (h1 : 200 ≤ k) (h2 : k ≤ 299) : Calls Try.prog 33 #[.agg #[.int .u8 1, .int .i64 wt, .int .i64 c], .int .i64 k] w (RetMO w ⟨4, 0, k⟩ [⟨3, k, 0, 0⟩, ⟨4, 0, 13, 32000⟩]) := by
  have f100 : fromB k 100 199 = false := by simp [fromB]; omega
  have f200 : fromB k 200 299 = true := by simp [fromB]; omega
  go_enter Try.func33, Try.ntmps33
  go_wp2_with (go_at_call 35; refine (from_any _ _ _ _).mono ?_; rintro e w' ⟨rfl, rfl⟩)
  go_region
  go_wp2
  refine bodyPost_ret (v := .tuple #[.agg #[.int .u8 (4), .int .i64 (0), .int .i64 (k)], .slice (some ⟨w.heap.size + 1 + 1 + 1 + 1, 0, none⟩) 2 2]) (by simp [results, Try.results33, go_sem]) rfl ⟨_, rfl, ?_, ?_⟩
  · exact Outs.new (by simp) (by omega) (by rfl) (by rfl)
  · repeat (first | exact Below.refl _ _ | refine Below.al _ (by simp; try omega) ?_ | refine Below.drew ?_)

set_option maxHeartbeats 1000000 in
theorem resp_1_c (wt c k : Int) (w : World) (h1 : 300 ≤ k) (h2 : k ≤ 699) : Calls Try.prog 33 #[.agg #[.int .u8 1, .int .i64 wt, .int .i64 c], .int .i64 k] w (RetMO w ⟨5, 0, k⟩ [⟨3, k, 0, 0⟩, ⟨2, k, 0, 0⟩, ⟨4, 0, 4, 32000⟩]) := by
  have f100 : fromB k 100 199 = false := by simp [fromB]; omega
  have f200 : fromB k 200 299 = false := by simp [fromB]; omega
  have f300 : fromB k 300 699 = true := by simp [fromB]; omega
  go_enter Try.func33, Try.ntmps33
  go_wp2_with (go_at_call 35; refine (from_any _ _ _ _).mono ?_; rintro e w' ⟨rfl, rfl⟩)
  go_region
  go_wp2
  refine bodyPost_ret (v := .tuple #[.agg #[.int .u8 (5), .int .i64 (0), .int .i64 (k)], .slice (some ⟨w.heap.size + 1 + 1 + 1 + 1, 0, none⟩) 3 3]) (by simp [results, Try.results33, go_sem]) rfl ⟨_, rfl, ?_, ?_⟩
  · exact Outs.new (by simp) (by omega) (by rfl) (by rfl)
  · repeat (first | exact Below.refl _ _ | refine Below.al _ (by simp; try omega) ?_ | refine Below.drew ?_)

set_option maxHeartbeats 1000000 in
theorem resp_1_d (wt c k : Int) (w : World) (h1 : k < 100 ∨ 699 < k) : Calls Try.prog 33 #[.agg #[.int .u8 1, .int .i64 wt, .int .i64 c], .int .i64 k] w (RetMO w ⟨1, wt, c⟩ []) := by
  have f100 : fromB k 100 199 = false := by simp [fromB]; omega
  have f200 : fromB k 200 299 = false := by simp [fromB]; omega
  have f300 : fromB k 300 699 = false := by simp [fromB]; omega
  go_enter Try.func33, Try.ntmps33
  go_wp2_with (go_at_call 35; refine (from_any _ _ _ _).mono ?_; rintro e w' ⟨rfl, rfl⟩)
  refine bodyPost_ret (v := .tuple #[.agg #[.int .u8 (1), .int .i64 (wt), .int .i64 (c)], .slice none 0 0]) (by simp [results, Try.results33, go_sem]) rfl ⟨_, rfl, ?_, ?_⟩
  · exact Outs.none_ _ _
  · repeat (first | exact Below.refl _ _ | refine Below.al _ (by simp; try omega) ?_ | refine Below.drew ?_)

set_option maxHeartbeats 1000000 in
theorem resp_3_a (wt c k : Int) (w : World) (h1 : 100 ≤ k) (h2 : k ≤ 199) : Calls Try.prog 33 #[.agg #[.int .u8 3, .int .i64 wt, .int .i64 c], .int .i64 k] w (RetMO w ⟨3, 0, 0⟩ [⟨3, k, 0, 0⟩]) := by
  have f100 : fromB k 100 199 = true := by simp [fromB]; omega
  go_enter Try.func33, Try.ntmps33
  go_wp2_with (go_at_call 35; refine (from_any _ _ _ _).mono ?_; rintro e w' ⟨rfl, rfl⟩)
  go_region
  go_wp2
  refine bodyPost_ret (v := .tuple #[.agg #[.int .u8 (3), .int .i64 (0), .int .i64 (0)], .slice (some ⟨w.heap.size + 1 + 1 + 1 + 1, 0, none⟩) 1 1]) (by simp [results, Try.results33, go_sem]) rfl ⟨_, rfl, ?_, ?_⟩
  · exact Outs.new (by simp) (by omega) (by rfl) (by rfl)
  · repeat (first | exact Below.refl _ _ | refine Below.al _ (by simp; try omega) ?_ | refine Below.drew ?_)

set_option maxHeartbeats 1000000 in
theorem resp_3_b (wt c k : Int) (w : World) (h1 : 200 ≤ k) (h2 : k ≤ 299) : Calls Try.prog 33 #[.agg #[.int .u8 3, .int .i64 wt, .int .i64 c], .int .i64 k] w (RetMO w ⟨4, 0, k⟩ [⟨3, k, 0, 0⟩, ⟨4, 0, 13, 32000⟩]) := by
  have f100 : fromB k 100 199 = false := by simp [fromB]; omega
  have f200 : fromB k 200 299 = true := by simp [fromB]; omega
  go_enter Try.func33, Try.ntmps33
  go_wp2_with (go_at_call 35; refine (from_any _ _ _ _).mono ?_; rintro e w' ⟨rfl, rfl⟩)
  go_region
  go_wp2
  refine bodyPost_ret (v := .tuple #[.agg #[.int .u8 (4), .int .i64 (0), .int .i64 (k)], .slice (some ⟨w.heap.size + 1 + 1 + 1 + 1, 0, none⟩) 2 2]) (by simp [results, Try.results33, go_sem]) rfl ⟨_, rfl, ?_, ?_⟩
  · exact Outs.new (by simp) (by omega) (by rfl) (by rfl)
  · repeat (first | exact Below.refl _ _ | refine Below.al _ (by simp; try omega) ?_ | refine Below.drew ?_)

set_option maxHeartbeats 1000000 in
theorem resp_3_c (wt c k : Int) (w : World) (h1 : 300 ≤ k) (h2 : k ≤ 699) : Calls Try.prog 33 #[.agg #[.int .u8 3, .int .i64 wt, .int .i64 c], .int .i64 k] w (RetMO w ⟨5, 0, k⟩ [⟨3, k, 0, 0⟩, ⟨2, k, 0, 0⟩, ⟨4, 0, 4, 32000⟩]) := by
  have f100 : fromB k 100 199 = false := by simp [fromB]; omega
  have f200 : fromB k 200 299 = false := by simp [fromB]; omega
  have f300 : fromB k 300 699 = true := by simp [fromB]; omega
  go_enter Try.func33, Try.ntmps33
  go_wp2_with (go_at_call 35; refine (from_any _ _ _ _).mono ?_; rintro e w' ⟨rfl, rfl⟩)
  go_region
  go_wp2
  refine bodyPost_ret (v := .tuple #[.agg #[.int .u8 (5), .int .i64 (0), .int .i64 (k)], .slice (some ⟨w.heap.size + 1 + 1 + 1 + 1, 0, none⟩) 3 3]) (by simp [results, Try.results33, go_sem]) rfl ⟨_, rfl, ?_, ?_⟩
  · exact Outs.new (by simp) (by omega) (by rfl) (by rfl)
  · repeat (first | exact Below.refl _ _ | refine Below.al _ (by simp; try omega) ?_ | refine Below.drew ?_)

set_option maxHeartbeats 1000000 in
theorem resp_3_d (wt c k : Int) (w : World) (h1 : k < 100 ∨ 699 < k) : Calls Try.prog 33 #[.agg #[.int .u8 3, .int .i64 wt, .int .i64 c], .int .i64 k] w (RetMO w ⟨3, wt, c⟩ []) := by
  have f100 : fromB k 100 199 = false := by simp [fromB]; omega
  have f200 : fromB k 200 299 = false := by simp [fromB]; omega
  have f300 : fromB k 300 699 = false := by simp [fromB]; omega
  go_enter Try.func33, Try.ntmps33
  go_wp2_with (go_at_call 35; refine (from_any _ _ _ _).mono ?_; rintro e w' ⟨rfl, rfl⟩)
  refine bodyPost_ret (v := .tuple #[.agg #[.int .u8 (3), .int .i64 (wt), .int .i64 (c)], .slice none 0 0]) (by simp [results, Try.results33, go_sem]) rfl ⟨_, rfl, ?_, ?_⟩
  · exact Outs.none_ _ _
  · repeat (first | exact Below.refl _ _ | refine Below.al _ (by simp; try omega) ?_ | refine Below.drew ?_)

set_option maxHeartbeats 1000000 in
theorem resp_4_b (wt c k : Int) (w : World) (h1 : 200 ≤ k) (h2 : k ≤ 299) : Calls Try.prog 33 #[.agg #[.int .u8 4, .int .i64 wt, .int .i64 c], .int .i64 k] w (RetMO w ⟨4, wt, c⟩ [⟨3, k, 0, 0⟩]) := by
  have f200 : fromB k 200 299 = true := by simp [fromB]; omega
  go_enter Try.func33, Try.ntmps33
  go_wp2_with (go_at_call 35; refine (from_any _ _ _ _).mono ?_; rintro e w' ⟨rfl, rfl⟩)
  go_region
  go_wp2
  refine bodyPost_ret (v := .tuple #[.agg #[.int .u8 (4), .int .i64 (wt), .int .i64 (c)], .slice (some ⟨w.heap.size + 1 + 1 + 1 + 1, 0, none⟩) 1 1]) (by simp [results, Try.results33, go_sem]) rfl ⟨_, rfl, ?_, ?_⟩
  · exact Outs.new (by simp) (by omega) (by rfl) (by rfl)
  · repeat (first | exact Below.refl _ _ | refine Below.al _ (by simp; try omega) ?_ | refine Below.drew ?_)

set_option maxHeartbeats 1000000 in
theorem resp_4_d (wt c k : Int) (w : World) (h1 : k < 200 ∨ 299 < k) : Calls Try.prog 33 #[.agg #[.int .u8 4, .int .i64 wt, .int .i64 c], .int .i64 k] w (RetMO w ⟨4, wt, c⟩ []) := by
  have f200 : fromB k 200 299 = false := by simp [fromB]; omega
  go_enter Try.func33, Try.ntmps33
  go_wp2_with (go_at_call 35; refine (from_any _ _ _ _).mono ?_; rintro e w' ⟨rfl, rfl⟩)
  refine bodyPost_ret (v := .tuple #[.agg #[.int .u8 (4), .int .i64 (wt), .int .i64 (c)], .slice none 0 0]) (by simp [results, Try.results33, go_sem]) rfl ⟨_, rfl, ?_, ?_⟩
  · exact Outs.none_ _ _
  · repeat (first | exact Below.refl _ _ | refine Below.al _ (by simp; try omega) ?_ | refine Below.drew ?_)

set_option maxHeartbeats 1000000 in
theorem resp_5_c (wt c k : Int) (w : World) (h1 : 300 ≤ k) (h2 : k ≤ 699) : Calls Try.prog 33 #[.agg #[.int .u8 5, .int .i64 wt, .int .i64 c], .int .i64 k] w (RetMO w ⟨5, wt, c⟩ [⟨2, k, 0, 0⟩]) := by
  have f300 : fromB k 300 699 = true := by simp [fromB]; omega
  go_enter Try.func33, Try.ntmps33
  go_wp2_with (go_at_call 35; refine (from_any _ _ _ _).mono ?_; rintro e w' ⟨rfl, rfl⟩)
  go_region
  go_wp2
  refine bodyPost_ret (v := .tuple #[.agg #[.int .u8 (5), .int .i64 (wt), .int .i64 (c)], .slice (some ⟨w.heap.size + 1 + 1 + 1 + 1, 0, none⟩) 1 1]) (by simp [results, Try.results33, go_sem]) rfl ⟨_, rfl, ?_, ?_⟩
  · exact Outs.new (by simp) (by omega) (by rfl) (by rfl)
  · repeat (first | exact Below.refl _ _ | refine Below.al _ (by simp; try omega) ?_ | refine Below.drew ?_)

set_option maxHeartbeats 1000000 in
theorem resp_5_d (wt c k : Int) (w : World) (h1 : k < 300 ∨ 699 < k) : Calls Try.prog 33 #[.agg #[.int .u8 5, .int .i64 wt, .int .i64 c], .int .i64 k] w (RetMO w ⟨5, wt, c⟩ []) := by
  have f300 : fromB k 300 699 = false := by simp [fromB]; omega
  go_enter Try.func33, Try.ntmps33
  go_wp2_with (go_at_call 35; refine (from_any _ _ _ _).mono ?_; rintro e w' ⟨rfl, rfl⟩)
  refine bodyPost_ret (v := .tuple #[.agg #[.int .u8 (5), .int .i64 (wt), .int .i64 (c)], .slice none 0 0]) (by simp [results, Try.results33, go_sem]) rfl ⟨_, rfl, ?_, ?_⟩
  · exact Outs.none_ _ _
  · repeat (first | exact Below.refl _ _ | refine Below.al _ (by simp; try omega) ?_ | refine Below.drew ?_)

set_option maxHeartbeats 1000000 in
theorem resp_o (s wt c k : Int) (w : World) (g1 : (s == 1) = false) (g3 : (s == 3) = false) (g4 : (s == 4) = false) (g5 : (s == 5) = false) : Calls Try.prog 33 #[.agg #[.int .u8 s, .int .i64 wt, .int .i64 c], .int .i64 k] w (RetMO w ⟨s, wt, c⟩ []) := by
  go_enter Try.func33, Try.ntmps33
  go_wp2_with (go_at_call 35; refine (from_any _ _ _ _).mono ?_; rintro e w' ⟨rfl, rfl⟩)
  refine bodyPost_ret (v := .tuple #[.agg #[.int .u8 (s), .int .i64 (wt), .int .i64 (c)], .slice none 0 0]) (by simp [results, Try.results33, go_sem]) rfl ⟨_, rfl, ?_, ?_⟩
  · exact Outs.none_ _ _
  · repeat (first | exact Below.refl _ _ | refine Below.al _ (by simp; try omega) ?_ | refine Below.drew ?_)


def respS (m : Mach) (k : Int) : Mach × List Out :=
  if m.st = 1 ∨ m.st = 3 then
    if 100 ≤ k ∧ k ≤ 199 then (⟨3, 0, 0⟩, [⟨3, k, 0, 0⟩])
    else if 200 ≤ k ∧ k ≤ 299 then (⟨4, 0, k⟩, [⟨3, k, 0, 0⟩, ⟨4, 0, 13, 32000⟩])
    else if 300 ≤ k ∧ k ≤ 699 then (⟨5, 0, k⟩, [⟨3, k, 0, 0⟩, ⟨2, k, 0, 0⟩, ⟨4, 0, 4, 32000⟩])
    else (m, [])
  else if m.st = 4 ∧ 200 ≤ k ∧ k ≤ 299 then (m, [⟨3, k, 0, 0⟩])
  else if m.st = 5 ∧ 300 ≤ k ∧ k ≤ 699 then (m, [⟨2, k, 0, 0⟩])
  else (m, [])

theorem resp_any (s wt c k : Int) (w : World) : Calls Try.prog 33 #[.agg #[.int .u8 s, .int .i64 wt, .int .i64 c], .int .i64 k] w (RetMO w (respS ⟨s, wt, c⟩ k).1 (respS ⟨s, wt, c⟩ k).2) := by
  by_cases a1 : s = 1
  · subst a1
    by_cases b1 : 100 ≤ k ∧ k ≤ 199
    · simpa [respS, b1] using resp_1_a wt c k w b1.1 b1.2
    by_cases b2 : 200 ≤ k ∧ k ≤ 299
    · simpa [respS, b1, b2] using resp_1_b wt c k w b2.1 b2.2
    by_cases b3 : 300 ≤ k ∧ k ≤ 699
    · simpa [respS, b1, b2, b3] using resp_1_c wt c k w b3.1 b3.2
    · simpa [respS, b1, b2, b3] using resp_1_d wt c k w (by omega)
  by_cases a3 : s = 3
  · subst a3
    by_cases b1 : 100 ≤ k ∧ k ≤ 199
    · simpa [respS, b1] using resp_3_a wt c k w b1.1 b1.2
    by_cases b2 : 200 ≤ k ∧ k ≤ 299
    · simpa [respS, b1, b2] using resp_3_b wt c k w b2.1 b2.2
    by_cases b3 : 300 ≤ k ∧ k ≤ 699
    · simpa [respS, b1, b2, b3] using resp_3_c wt c k w b3.1 b3.2
    · simpa [respS, b1, b2, b3] using resp_3_d wt c k w (by omega)
  by_cases a4 : s = 4
  · subst a4
    by_cases b2 : 200 ≤ k ∧ k ≤ 299
    · simpa [respS, b2] using resp_4_b wt c k w b2.1 b2.2
    · simpa [respS, b2] using resp_4_d wt c k w (by omega)
  by_cases a5 : s = 5
  · subst a5
    by_cases b2 : 300 ≤ k ∧ k ≤ 699
    · simpa [respS, b2] using resp_5_c wt c k w b2.1 b2.2
    · simpa [respS, b2] using resp_5_d wt c k w (by omega)
  simpa [respS, a1, a3, a4, a5] using resp_o s wt c k w (by simp [a1]) (by simp [a3]) (by simp [a4]) (by simp [a5])
end Go.Proofs.Ytdooohanhekniaa
