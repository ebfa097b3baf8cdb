/- The law RefreshOne. -/
import Derived.Test.YtcnkjgjimcddiaaGreatDoorEs
namespace Go.Proofs.YtcnkjgjimcddiaaGreatDoor
open Go.RowKit

theorem start_in {S now : Int} (b0 : 90 ≤ S) (b1 : S ≤ 86400) (b2 : 0 ≤ now) (b3 : now ≤ 1099511627776) (c sd : Bool) : startV 0 S c sd now = .tuple #[.agg #[.int .i64 S, .bool (c == sd), .int .i64 now, .bool false, .bool false], .int .u8 0] := by
  unfold startV
  rw [if_neg (by simp [ivl, tmOK]; omega), if_neg (by omega)]
theorem may_in {S now : Int} (b0 : 90 ≤ S) (b1 : S ≤ 86400) (b2 : 0 ≤ now) (b3 : now ≤ 1099511627776) {o p : Bool} (h : o = true ∨ p = false) : mayR S o now p false = true := by
  unfold mayR
  rw [if_neg (by omega)]
  rcases h with rfl | rfl <;> simp [ivl, tmOK] <;> omega
theorem next_in {S now : Int} (b0 : 90 ≤ S) (b1 : S ≤ 86400) (b2 : 0 ≤ now) (b3 : now ≤ 1099511627776) {o p : Bool} (h : o = true ∨ p = false) : nextV S o now p false = .tuple #[.int .i64 (nextR S o now p), .bool true] := by
  unfold nextV
  rw [if_neg (by rw [may_in b0 b1 b2 b3 h]; simp; omega)]
theorem lim_in {S now M : Int} (b0 : 90 ≤ S) (h : limR S now = M) : now + 500 * S < M ∧ M ≤ now + 1000 * S := by
  unfold limR at h
  omega
theorem fire_send {S now N M : Int} (b0 : 90 ≤ S) (b1 : S ≤ 86400) (b2 : 0 ≤ now) (b3 : now ≤ 1099511627776) (hN : N = now + 500 * S) (hM : limR S now = M) (h : N < M) (h4 : N ≤ 1099511627776) : fireV S true now false false N = .tuple #[.agg #[.int .i64 S, .bool true, .int .i64 now, .bool true, .bool false], .int .u8 1, .int .u8 0] := by
  unfold fireV
  rw [if_neg (by rw [may_in b0 b1 b2 b3 (.inl rfl)]; simp [tmOK]; omega), if_neg (by rw [nextR_now ⟨rfl, rfl⟩]; simp; omega), if_neg (by rw [hM]; omega)]
theorem fire_bye {S now M : Int} (b0 : 90 ≤ S) (b1 : S ≤ 86400) (b2 : 0 ≤ now) (b3 : now ≤ 1099511627776) (hM : limR S now = M) {o p : Bool} (h : o = false ∨ p = true) (h2 : o = true ∨ p = false) (h4 : M ≤ 1099511627776) : fireV S o now p false M = .tuple #[.agg #[.int .i64 S, .bool o, .int .i64 now, .bool false, .bool true], .int .u8 2, .int .u8 0] := by
  have hl := lim_in b0 hM
  unfold fireV
  rw [if_neg (by rw [may_in b0 b1 b2 b3 h2]; simp [tmOK]; omega), if_neg (by rw [nextR_lim h, hM]; simp; omega), if_pos (by rw [hM]; omega)]
theorem mine_two2 {w Y : World} {FS : List (World → Prop)} (h : Mine w Y [] FS) (T : TypeId) (vs us : List Value) : Mine w ((Y.alloc (.cells vs.toArray T)).alloc (.cells us.toArray T)).drew [(Y.heap.size + 1, T, us), (Y.heap.size, T, vs)] FS := by
  have h2 := ((h.alloc T vs).alloc T us).drew
  rw [World.size_alloc] at h2
  exact h2
theorem mine_two1 {w Y : World} {FS : List (World → Prop)} (h : Mine w Y [] FS) (T : TypeId) (vs us : List Value) : Mine w ((Y.alloc (.cells vs.toArray T)).alloc (.cells us.toArray T)).drew [(Y.heap.size, T, vs), (Y.heap.size + 1, T, us)] FS :=
  (mine_two2 h T vs us).sub (fun r hr => by
    simp only [List.mem_cons, List.not_mem_nil, or_false] at hr ⊢
    exact hr.symm) (by simp)
set_option maxRecDepth 100000 in
set_option maxHeartbeats 4000000 in
theorem one_yes (S sec now : Int) (w : World) (hE : S = 90 + sec) (c0 : 0 ≤ sec) (c1 : sec ≤ 65535) (z0 : 90 ≤ S) (z1 : S ≤ 86400) (z2 : 0 ≤ now) (z3 : now ≤ 65535) (hS : SC w) (hK : KD w) :
    Calls Tryz.prog 4 #[.int .u16 sec, .bool true, .int .u16 now] w fun e w' => e = .returned (.bool true) ∧ Below w.heap.size w w' := by
  have HS := Lib.hid hS; have HK := Lib.hid hK; have HE := Lib.hid hE
  clear hS hK hE
  have ST := Lib.hid (Mine.refl w)
  go_enter Tryz.func4, Tryz.ntmps4
  go_upto_region 2 with (fail)
  have hE2 := HE.out
  simp only [← hE2] at *
  clear hE2 c0 c1
  replace ST := Lib.hid ((show Mine w (w.alloc (.cells #[.int .i64 0, .int .i64 0, .int .i64 S, .bool true] 25)) ((w.heap.size, 25, [.int .i64 0, .int .i64 0, .int .i64 S, .bool true]) :: []) _ from ST.out.alloc 25 [.int .i64 0, .int .i64 0, .int .i64 S, .bool true]).rest)
  generalize w.alloc (.cells #[.int .i64 0, .int .i64 0, .int .i64 S, .bool true] 25) = Y1 at *
  generalize w.heap.size = b1 at *
  go_wp2_with (with_reducible refine wpList_loadR rfl 25 (.tmp 7) rfl (show Row _ b1 25 [.int .i64 0, .int .i64 0, .int .i64 S, .bool true] from ST.out.fact (i := 0) rfl) rfl Tryz.underlying25 rfl (sizeAg _ _ _ _) ?_)
  refine (startt_any 0 0 S now true true _).mono ?_
  rintro e X2 ⟨rfl, hb⟩
  rw [start_in z0 z1 z2 (by omega) true true]
  replace ST := Lib.hid (ST.out.call hb)
  clear hb
  go_upto_region 3 with (fail)
  replace ST := Lib.hid ((show Mine w (X2.alloc (.cells #[.int .i64 S, .bool true, .int .i64 now, .bool false, .bool false] 23)) ((X2.heap.size, 23, [.int .i64 S, .bool true, .int .i64 now, .bool false, .bool false]) :: []) _ from ST.out.alloc 23 [.int .i64 S, .bool true, .int .i64 now, .bool false, .bool false]).rest)
  generalize X2.alloc (.cells #[.int .i64 S, .bool true, .int .i64 now, .bool false, .bool false] 23) = Y3 at *
  generalize X2.heap.size = b3 at *
  go_wp2_with (with_reducible refine wpList_loadR rfl 25 (.tmp 7) rfl (show Row _ b1 25 [.int .i64 0, .int .i64 0, .int .i64 S, .bool true] from ST.out.fact (i := 1) rfl) rfl Tryz.underlying25 rfl (sizeAg _ _ _ _) ?_)
  refine (startt_any 0 0 S now true false _).mono ?_
  rintro e X4 ⟨rfl, hb⟩
  rw [start_in z0 z1 z2 (by omega) true false]
  replace ST := Lib.hid (ST.out.call hb)
  clear hb
  go_upto_region 4 with (fail)
  replace ST := Lib.hid ((show Mine w (X4.alloc (.cells #[.int .i64 S, .bool false, .int .i64 now, .bool false, .bool false] 23)) ((X4.heap.size, 23, [.int .i64 S, .bool false, .int .i64 now, .bool false, .bool false]) :: []) _ from ST.out.alloc 23 [.int .i64 S, .bool false, .int .i64 now, .bool false, .bool false]).rest)
  generalize X4.alloc (.cells #[.int .i64 S, .bool false, .int .i64 now, .bool false, .bool false] 23) = Y5 at *
  generalize X4.heap.size = b5 at *
  have k8_0 := (show Row _ b3 23 [.int .i64 S, .bool true, .int .i64 now, .bool false, .bool false] from ST.out.fact (i := 1) rfl).cell 0; have k8_1 := (show Row _ b3 23 [.int .i64 S, .bool true, .int .i64 now, .bool false, .bool false] from ST.out.fact (i := 1) rfl).cell 1; have k8_2 := (show Row _ b3 23 [.int .i64 S, .bool true, .int .i64 now, .bool false, .bool false] from ST.out.fact (i := 1) rfl).cell 2; have k8_3 := (show Row _ b3 23 [.int .i64 S, .bool true, .int .i64 now, .bool false, .bool false] from ST.out.fact (i := 1) rfl).cell 3; have k8_4 := (show Row _ b3 23 [.int .i64 S, .bool true, .int .i64 now, .bool false, .bool false] from ST.out.fact (i := 1) rfl).cell 4
  simp only [List.getElem?_cons_succ, List.getElem?_cons_zero] at k8_0 k8_1 k8_2 k8_3 k8_4
  have k10_0 := (show Row _ b5 23 [.int .i64 S, .bool false, .int .i64 now, .bool false, .bool false] from ST.out.fact (i := 0) rfl).cell 0; have k10_1 := (show Row _ b5 23 [.int .i64 S, .bool false, .int .i64 now, .bool false, .bool false] from ST.out.fact (i := 0) rfl).cell 1; have k10_2 := (show Row _ b5 23 [.int .i64 S, .bool false, .int .i64 now, .bool false, .bool false] from ST.out.fact (i := 0) rfl).cell 2; have k10_3 := (show Row _ b5 23 [.int .i64 S, .bool false, .int .i64 now, .bool false, .bool false] from ST.out.fact (i := 0) rfl).cell 3; have k10_4 := (show Row _ b5 23 [.int .i64 S, .bool false, .int .i64 now, .bool false, .bool false] from ST.out.fact (i := 0) rfl).cell 4
  simp only [List.getElem?_cons_succ, List.getElem?_cons_zero] at k10_0 k10_1 k10_2 k10_3 k10_4
  have k7_2 := (show Row _ b1 25 [.int .i64 0, .int .i64 0, .int .i64 S, .bool true] from ST.out.fact (i := 2) rfl).cell 2
  simp only [List.getElem?_cons_succ, List.getElem?_cons_zero] at k7_2
  go_upto_region 6 with (fail)
  have l8 := Lib.hid (show Row Y5 b3 23 [.int .i64 S, .bool true, .int .i64 now, .bool false, .bool false] from ST.out.fact (i := 1) rfl).lt
  have l10 := Lib.hid (show Row Y5 b5 23 [.int .i64 S, .bool false, .int .i64 now, .bool false, .bool false] from ST.out.fact (i := 0) rfl).lt
  go_cut [12, 13] (fun v12 v13 wx => ∃ p q, v12 = .pointer (some ⟨p, 0, none⟩) ∧ v13 = .pointer (some ⟨q, 0, none⟩) ∧ Mine w wx [(p, 23, [.int .i64 S, .bool true, .int .i64 now, .bool false, .bool false]), (q, 23, [.int .i64 S, .bool false, .int .i64 now, .bool false, .bool false])] [(fun W => Row W b5 23 [.int .i64 S, .bool false, .int .i64 now, .bool false, .bool false]), (fun W => Row W b3 23 [.int .i64 S, .bool true, .int .i64 now, .bool false, .bool false]), (fun W => Row W b1 25 [.int .i64 0, .int .i64 0, .int .i64 S, .bool true])] ∧ b3 < p ∧ b3 < q ∧ b5 < p ∧ b5 < q ∧ p ≠ q)
  case first =>
    go_region_held3 (fun w' => w'.cell? ⟨b3, 0, none⟩ = some (.int .i64 S) ∧ w'.cell? ⟨b3, 1, none⟩ = some (.bool true) ∧ w'.cell? ⟨b3, 2, none⟩ = some (.int .i64 now) ∧ w'.cell? ⟨b3, 3, none⟩ = some (.bool false) ∧ w'.cell? ⟨b3, 4, none⟩ = some (.bool false) ∧ w'.cell? ⟨b5, 0, none⟩ = some (.int .i64 S) ∧ w'.cell? ⟨b5, 1, none⟩ = some (.bool false) ∧ w'.cell? ⟨b5, 2, none⟩ = some (.int .i64 now) ∧ w'.cell? ⟨b5, 3, none⟩ = some (.bool false) ∧ w'.cell? ⟨b5, 4, none⟩ = some (.bool false)) (first | exact ⟨k8_0, k8_1, k8_2, k8_3, k8_4, k10_0, k10_1, k10_2, k10_3, k10_4⟩ | go_keep) (fail)
    · go_wp2_with fail
      go_meet
      exact ⟨_, _, rfl, rfl, mine_two1 ST.out _ _ _, l8.out, Nat.lt_succ_of_lt l8.out, l10.out, Nat.lt_succ_of_lt l10.out, Nat.ne_of_lt (Nat.lt_succ_self _)⟩
    · go_wp2_with fail
      go_meet
      exact ⟨_, _, rfl, rfl, mine_two2 ST.out _ _ _, Nat.lt_succ_of_lt l8.out, l8.out, Nat.lt_succ_of_lt l10.out, l10.out, Nat.ne_of_gt (Nat.lt_succ_self _)⟩
  case rest =>
    clear k8_0 k10_0 k8_1 k10_1 k8_2 k10_2 k8_3 k10_3 k8_4 k10_4 k7_2 ST l8 l10
    obtain ⟨p, q, rfl, rfl, hM, e1, e2, e3, e4, e5⟩ := hcut
    obtain ⟨wx1, rfl⟩ : ∃ z : World, z = wc := ⟨_, rfl⟩
    have ST := Lib.hid hM.rest.rest
    clear hM e1 e2 e3 e4 e5
    have k10_1 := (show Row _ b5 23 [.int .i64 S, .bool false, .int .i64 now, .bool false, .bool false] from ST.out.fact (i := 2) rfl).cell 1
    simp only [List.getElem?_cons_succ, List.getElem?_cons_zero] at k10_1
    go_wp2_with (with_reducible refine wpList_loadR rfl 23 (.tmp 12) rfl (show Row _ p 23 [.int .i64 S, .bool true, .int .i64 now, .bool false, .bool false] from ST.out.fact (i := 1) rfl) rfl Tryz.underlying23 rfl (sizeRf _ _ _ _ _) ?_)
    refine (nextt_any S now true false false _).mono ?_
    rintro e X1 ⟨rfl, hb⟩
    rw [next_in z0 z1 z2 (by omega) (.inr rfl), nextR_now ⟨rfl, rfl⟩]
    replace ST := Lib.hid (ST.out.call hb)
    clear hb
    go_wp2_with (with_reducible refine wpList_loadR rfl 23 (.tmp 13) rfl (show Row _ q 23 [.int .i64 S, .bool false, .int .i64 now, .bool false, .bool false] from ST.out.fact (i := 0) rfl) rfl Tryz.underlying23 rfl (sizeRf _ _ _ _ _) ?_)
    obtain ⟨M, hM⟩ : ∃ M, limR S now = M := ⟨_, rfl⟩
    obtain ⟨m1, m2⟩ := lim_in z0 hM
    have HM := Lib.hid hM; clear hM
    obtain ⟨N, hN⟩ : ∃ N, now + 500 * S = N := ⟨_, rfl⟩
    have m3 : N < M := by omega
    have m4 : 0 ≤ N := by omega
    have HN := Lib.hid hN
    rw [HN.out]
    clear hN
    refine (nextt_any S now false false false _).mono ?_
    rintro e X2 ⟨rfl, hb⟩
    rw [next_in z0 z1 z2 (by omega) (.inr rfl), nextR_lim (.inl rfl), HM.out]
    replace ST := Lib.hid (ST.out.call hb)
    clear hb
    go_wp2_with (with_reducible refine wpList_loadR rfl 23 (.tmp 12) rfl (show Row _ p 23 [.int .i64 S, .bool true, .int .i64 now, .bool false, .bool false] from ST.out.fact (i := 1) rfl) rfl Tryz.underlying23 rfl (sizeRf _ _ _ _ _) ?_)
    refine (firet_any S now N true false false _).mono ?_
    rintro e X3 ⟨rfl, hb⟩
    rw [fire_send z0 z1 z2 (by omega) HN.out.symm HM.out m3 (by omega)]
    replace ST := Lib.hid (ST.out.call hb)
    clear hb
    go_upto_region 12 with (fail)
    replace ST := Lib.hid ((show Mine w (X3.alloc (.cells #[.int .i64 S, .bool true, .int .i64 now, .bool true, .bool false] 23)) ((X3.heap.size, 23, [.int .i64 S, .bool true, .int .i64 now, .bool true, .bool false]) :: []) _ from ST.out.alloc 23 [.int .i64 S, .bool true, .int .i64 now, .bool true, .bool false]).rest)
    generalize X3.alloc (.cells #[.int .i64 S, .bool true, .int .i64 now, .bool true, .bool false] 23) = Y4 at *
    generalize X3.heap.size = b4 at *
    go_wp2_with (with_reducible refine wpList_loadR rfl 23 (.tmp 18) rfl (show Row _ b4 23 [.int .i64 S, .bool true, .int .i64 now, .bool true, .bool false] from ST.out.fact (i := 0) rfl) rfl Tryz.underlying23 rfl (sizeRf _ _ _ _ _) ?_)
    refine (nextt_any S now true true false _).mono ?_
    rintro e X5 ⟨rfl, hb⟩
    rw [next_in z0 z1 z2 (by omega) (.inl rfl), nextR_lim (.inr rfl), HM.out]
    replace ST := Lib.hid (ST.out.call hb)
    clear hb
    go_wp2_with (with_reducible refine wpList_loadR rfl 23 (.tmp 18) rfl (show Row _ b4 23 [.int .i64 S, .bool true, .int .i64 now, .bool true, .bool false] from ST.out.fact (i := 0) rfl) rfl Tryz.underlying23 rfl (sizeRf _ _ _ _ _) ?_)
    refine (firet_any S now M true true false _).mono ?_
    rintro e X6 ⟨rfl, hb⟩
    rw [fire_bye z0 z1 z2 (by omega) HM.out (.inr rfl) (.inl rfl) (by omega)]
    replace ST := Lib.hid (ST.out.call hb)
    clear hb
    go_upto_region 16 with (fail)
    replace ST := Lib.hid ((show Mine w (X6.alloc (.cells #[.int .i64 S, .bool true, .int .i64 now, .bool false, .bool true] 23)) ((X6.heap.size, 23, [.int .i64 S, .bool true, .int .i64 now, .bool false, .bool true]) :: []) _ from ST.out.alloc 23 [.int .i64 S, .bool true, .int .i64 now, .bool false, .bool true]).rest)
    generalize X6.alloc (.cells #[.int .i64 S, .bool true, .int .i64 now, .bool false, .bool true] 23) = Y7 at *
    generalize X6.heap.size = b7 at *
    go_wp2_with (with_reducible refine wpList_loadR rfl 23 (.tmp 13) rfl (show Row _ q 23 [.int .i64 S, .bool false, .int .i64 now, .bool false, .bool false] from ST.out.fact (i := 2) rfl) rfl Tryz.underlying23 rfl (sizeRf _ _ _ _ _) ?_)
    refine (firet_any S now M false false false _).mono ?_
    rintro e X8 ⟨rfl, hb⟩
    rw [fire_bye z0 z1 z2 (by omega) HM.out (.inl rfl) (.inr rfl) (by omega)]
    replace ST := Lib.hid (ST.out.call hb)
    clear hb
    go_upto_region 17 with (fail)
    replace ST := Lib.hid ((show Mine w (X8.alloc (.cells #[.int .i64 S, .bool false, .int .i64 now, .bool false, .bool true] 23)) ((X8.heap.size, 23, [.int .i64 S, .bool false, .int .i64 now, .bool false, .bool true]) :: []) _ from ST.out.alloc 23 [.int .i64 S, .bool false, .int .i64 now, .bool false, .bool true]).rest)
    generalize X8.alloc (.cells #[.int .i64 S, .bool false, .int .i64 now, .bool false, .bool true] 23) = Y9 at *
    generalize X8.heap.size = b9 at *
    have k22_4 := (show Row _ b7 23 [.int .i64 S, .bool true, .int .i64 now, .bool false, .bool true] from ST.out.fact (i := 1) rfl).cell 4
    simp only [List.getElem?_cons_succ, List.getElem?_cons_zero] at k22_4
    have k24_4 := (show Row _ b9 23 [.int .i64 S, .bool false, .int .i64 now, .bool false, .bool true] from ST.out.fact (i := 0) rfl).cell 4
    simp only [List.getElem?_cons_succ, List.getElem?_cons_zero] at k24_4
    have k7_2 := (show Row _ b1 25 [.int .i64 0, .int .i64 0, .int .i64 S, .bool true] from ST.out.fact (i := 7) rfl).cell 2
    simp only [List.getElem?_cons_succ, List.getElem?_cons_zero] at k7_2
    have m5 : M ≤ now + 1000 * S := by omega
    have m6 : decide (M ≤ now + 1000 * S) = true := decide_eq_true m5
    go_wp2_with (go_at_call 18; refine (works19_any _ (HS.out.below ST.out.bw) (HK.out.below ST.out.bw)).mono ?_; rintro e W9 ⟨rfl, hb9⟩; replace ST := Lib.hid (ST.out.call hb9); clear hb9)
    go_ret
    exact ⟨rfl, ST.out.bw⟩

end Go.Proofs.YtcnkjgjimcddiaaGreatDoor
