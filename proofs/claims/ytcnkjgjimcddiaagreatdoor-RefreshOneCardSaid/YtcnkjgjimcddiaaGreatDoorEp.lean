/- The law RefreshOne, the other side. -/
import Derived.Test.YtcnkjgjimcddiaaGreatDoorEo
import Derived.Test.YtcnkjgjimcddiaaGreatDoorEy
namespace Go.Proofs.YtcnkjgjimcddiaaGreatDoor
open Go.RowKit

set_option maxRecDepth 100000 in
set_option maxHeartbeats 4000000 in
theorem one_no (S sec now : Int) (w : World) (hE : S = 90 + sec) (c0 : 0 ≤ sec) (c1 : sec ≤ 65535) (z0 : 90 ≤ S) (z1 : S ≤ 86400) (z2 : 0 ≤ now) (z3 : now ≤ 65535) (hS : SC w) (hK : KD w) :
    Calls Tryz.prog 4 #[.int .u16 sec, .bool false, .int .u16 now] w fun e w' => e = .returned (.bool true) ∧ Below w.heap.size w w' := by
  have HS := Lib.hid hS; have HK := Lib.hid hK; have HE := Lib.hid hE
  clear hS hK hE
  have ST := Lib.hid (Mine.refl w)
  go_enter Tryz.func4, Tryz.ntmps4
  go_upto_region 2 with (fail)
  have hE2 := HE.out
  simp only [← hE2] at *
  clear hE2 c0 c1
  replace ST := Lib.hid ((show Mine w (w.alloc (.cells #[.int .i64 0, .int .i64 0, .int .i64 S, .bool false] 25)) ((w.heap.size, 25, [.int .i64 0, .int .i64 0, .int .i64 S, .bool false]) :: []) _ from ST.out.alloc 25 [.int .i64 0, .int .i64 0, .int .i64 S, .bool false]).rest)
  generalize w.alloc (.cells #[.int .i64 0, .int .i64 0, .int .i64 S, .bool false] 25) = Y1 at *
  generalize w.heap.size = b1 at *
  go_wp2_with (with_reducible refine wpList_loadR rfl 25 (.tmp 7) rfl (show Row _ b1 25 [.int .i64 0, .int .i64 0, .int .i64 S, .bool false] from ST.out.fact (i := 0) rfl) rfl Tryz.underlying25 rfl (sizeAg _ _ _ _) ?_)
  refine (startt_any 0 0 S now false true _).mono ?_
  rintro e X2 ⟨rfl, hb⟩
  rw [start_in z0 z1 z2 (by omega) false true]
  replace ST := Lib.hid (ST.out.call hb)
  clear hb
  go_upto_region 3 with (fail)
  replace ST := Lib.hid ((show Mine w (X2.alloc (.cells #[.int .i64 S, .bool false, .int .i64 now, .bool false, .bool false] 23)) ((X2.heap.size, 23, [.int .i64 S, .bool false, .int .i64 now, .bool false, .bool false]) :: []) _ from ST.out.alloc 23 [.int .i64 S, .bool false, .int .i64 now, .bool false, .bool false]).rest)
  generalize X2.alloc (.cells #[.int .i64 S, .bool false, .int .i64 now, .bool false, .bool false] 23) = Y3 at *
  generalize X2.heap.size = b3 at *
  go_wp2_with (with_reducible refine wpList_loadR rfl 25 (.tmp 7) rfl (show Row _ b1 25 [.int .i64 0, .int .i64 0, .int .i64 S, .bool false] from ST.out.fact (i := 1) rfl) rfl Tryz.underlying25 rfl (sizeAg _ _ _ _) ?_)
  refine (startt_any 0 0 S now false false _).mono ?_
  rintro e X4 ⟨rfl, hb⟩
  rw [start_in z0 z1 z2 (by omega) false false]
  replace ST := Lib.hid (ST.out.call hb)
  clear hb
  go_upto_region 4 with (fail)
  replace ST := Lib.hid ((show Mine w (X4.alloc (.cells #[.int .i64 S, .bool true, .int .i64 now, .bool false, .bool false] 23)) ((X4.heap.size, 23, [.int .i64 S, .bool true, .int .i64 now, .bool false, .bool false]) :: []) _ from ST.out.alloc 23 [.int .i64 S, .bool true, .int .i64 now, .bool false, .bool false]).rest)
  generalize X4.alloc (.cells #[.int .i64 S, .bool true, .int .i64 now, .bool false, .bool false] 23) = Y5 at *
  generalize X4.heap.size = b5 at *
  have k8_0 := (show Row _ b3 23 [.int .i64 S, .bool false, .int .i64 now, .bool false, .bool false] from ST.out.fact (i := 1) rfl).cell 0; have k8_1 := (show Row _ b3 23 [.int .i64 S, .bool false, .int .i64 now, .bool false, .bool false] from ST.out.fact (i := 1) rfl).cell 1; have k8_2 := (show Row _ b3 23 [.int .i64 S, .bool false, .int .i64 now, .bool false, .bool false] from ST.out.fact (i := 1) rfl).cell 2; have k8_3 := (show Row _ b3 23 [.int .i64 S, .bool false, .int .i64 now, .bool false, .bool false] from ST.out.fact (i := 1) rfl).cell 3; have k8_4 := (show Row _ b3 23 [.int .i64 S, .bool false, .int .i64 now, .bool false, .bool false] from ST.out.fact (i := 1) rfl).cell 4
  simp only [List.getElem?_cons_succ, List.getElem?_cons_zero] at k8_0 k8_1 k8_2 k8_3 k8_4
  have k10_0 := (show Row _ b5 23 [.int .i64 S, .bool true, .int .i64 now, .bool false, .bool false] from ST.out.fact (i := 0) rfl).cell 0; have k10_1 := (show Row _ b5 23 [.int .i64 S, .bool true, .int .i64 now, .bool false, .bool false] from ST.out.fact (i := 0) rfl).cell 1; have k10_2 := (show Row _ b5 23 [.int .i64 S, .bool true, .int .i64 now, .bool false, .bool false] from ST.out.fact (i := 0) rfl).cell 2; have k10_3 := (show Row _ b5 23 [.int .i64 S, .bool true, .int .i64 now, .bool false, .bool false] from ST.out.fact (i := 0) rfl).cell 3; have k10_4 := (show Row _ b5 23 [.int .i64 S, .bool true, .int .i64 now, .bool false, .bool false] from ST.out.fact (i := 0) rfl).cell 4
  simp only [List.getElem?_cons_succ, List.getElem?_cons_zero] at k10_0 k10_1 k10_2 k10_3 k10_4
  have k7_2 := (show Row _ b1 25 [.int .i64 0, .int .i64 0, .int .i64 S, .bool false] from ST.out.fact (i := 2) rfl).cell 2
  simp only [List.getElem?_cons_succ, List.getElem?_cons_zero] at k7_2
  go_upto_region 6 with (fail)
  have l8 := Lib.hid (show Row Y5 b3 23 [.int .i64 S, .bool false, .int .i64 now, .bool false, .bool false] from ST.out.fact (i := 1) rfl).lt
  have l10 := Lib.hid (show Row Y5 b5 23 [.int .i64 S, .bool true, .int .i64 now, .bool false, .bool false] from ST.out.fact (i := 0) rfl).lt
  go_cut [12, 13] (fun v12 v13 wx => ∃ p q, v12 = .pointer (some ⟨p, 0, none⟩) ∧ v13 = .pointer (some ⟨q, 0, none⟩) ∧ Mine w wx [(p, 23, [.int .i64 S, .bool false, .int .i64 now, .bool false, .bool false]), (q, 23, [.int .i64 S, .bool true, .int .i64 now, .bool false, .bool false])] [(fun W => Row W b5 23 [.int .i64 S, .bool true, .int .i64 now, .bool false, .bool false]), (fun W => Row W b3 23 [.int .i64 S, .bool false, .int .i64 now, .bool false, .bool false]), (fun W => Row W b1 25 [.int .i64 0, .int .i64 0, .int .i64 S, .bool false])] ∧ b3 < p ∧ b3 < q ∧ b5 < p ∧ b5 < q ∧ p ≠ q)
  case first =>
    go_region_held3 (fun w' => w'.cell? ⟨b3, 0, none⟩ = some (.int .i64 S) ∧ w'.cell? ⟨b3, 1, none⟩ = some (.bool false) ∧ w'.cell? ⟨b3, 2, none⟩ = some (.int .i64 now) ∧ w'.cell? ⟨b3, 3, none⟩ = some (.bool false) ∧ w'.cell? ⟨b3, 4, none⟩ = some (.bool false) ∧ w'.cell? ⟨b5, 0, none⟩ = some (.int .i64 S) ∧ w'.cell? ⟨b5, 1, none⟩ = some (.bool true) ∧ w'.cell? ⟨b5, 2, none⟩ = some (.int .i64 now) ∧ w'.cell? ⟨b5, 3, none⟩ = some (.bool false) ∧ w'.cell? ⟨b5, 4, none⟩ = some (.bool false)) (first | exact ⟨k8_0, k8_1, k8_2, k8_3, k8_4, k10_0, k10_1, k10_2, k10_3, k10_4⟩ | go_keep) (fail)
    · go_wp2_with fail
      go_meet
      exact ⟨_, _, rfl, rfl, mine_two1 ST.out _ _ _, l8.out, Nat.lt_succ_of_lt l8.out, l10.out, Nat.lt_succ_of_lt l10.out, Nat.ne_of_lt (Nat.lt_succ_self _)⟩
    · go_wp2_with fail
      go_meet
      exact ⟨_, _, rfl, rfl, mine_two2 ST.out _ _ _, Nat.lt_succ_of_lt l8.out, l8.out, Nat.lt_succ_of_lt l10.out, l10.out, Nat.ne_of_gt (Nat.lt_succ_self _)⟩
  case rest =>
    clear k8_0 k10_0 k8_1 k10_1 k8_2 k10_2 k8_3 k10_3 k8_4 k10_4 k7_2 ST l8 l10
    obtain ⟨p, q, rfl, rfl, hM, e1, e2, e3, e4, e5⟩ := hcut
    obtain ⟨wx1, rfl⟩ : ∃ z : World, z = wc := ⟨_, rfl⟩
    have ST := Lib.hid hM
    clear hM
    have k10_0 := (show Row _ b5 23 [.int .i64 S, .bool true, .int .i64 now, .bool false, .bool false] from ST.out.fact (i := 0) rfl).cell 0; have k10_1 := (show Row _ b5 23 [.int .i64 S, .bool true, .int .i64 now, .bool false, .bool false] from ST.out.fact (i := 0) rfl).cell 1; have k10_2 := (show Row _ b5 23 [.int .i64 S, .bool true, .int .i64 now, .bool false, .bool false] from ST.out.fact (i := 0) rfl).cell 2; have k10_3 := (show Row _ b5 23 [.int .i64 S, .bool true, .int .i64 now, .bool false, .bool false] from ST.out.fact (i := 0) rfl).cell 3; have k10_4 := (show Row _ b5 23 [.int .i64 S, .bool true, .int .i64 now, .bool false, .bool false] from ST.out.fact (i := 0) rfl).cell 4
    simp only [List.getElem?_cons_succ, List.getElem?_cons_zero] at k10_0 k10_1 k10_2 k10_3 k10_4
    have k8_0 := (show Row _ b3 23 [.int .i64 S, .bool false, .int .i64 now, .bool false, .bool false] from ST.out.fact (i := 1) rfl).cell 0; have k8_1 := (show Row _ b3 23 [.int .i64 S, .bool false, .int .i64 now, .bool false, .bool false] from ST.out.fact (i := 1) rfl).cell 1; have k8_2 := (show Row _ b3 23 [.int .i64 S, .bool false, .int .i64 now, .bool false, .bool false] from ST.out.fact (i := 1) rfl).cell 2; have k8_3 := (show Row _ b3 23 [.int .i64 S, .bool false, .int .i64 now, .bool false, .bool false] from ST.out.fact (i := 1) rfl).cell 3; have k8_4 := (show Row _ b3 23 [.int .i64 S, .bool false, .int .i64 now, .bool false, .bool false] from ST.out.fact (i := 1) rfl).cell 4
    simp only [List.getElem?_cons_succ, List.getElem?_cons_zero] at k8_0 k8_1 k8_2 k8_3 k8_4
    have g12 := Lib.hid (ST.out.row (i := 0) rfl).there; have g13 := Lib.hid (ST.out.row (i := 1) rfl).there
    go_upto_region 8 with (fail)
    go_wp2_with fail
    refine region_dag (by kernel_rfl) (by kernel_rfl) (fun j _ v => (j = 0 → v = .agg #[.int .i64 S, .bool true, .int .i64 now, .bool false, .bool false]) ∧ (j = 1 → v = .agg #[.int .i64 S, .bool false, .int .i64 now, .bool false, .bool false])) (fun L _ W => ∃ vp vq, Mine w W [(p, 23, vp), (q, 23, vq)] [(fun W => Row W b5 23 [.int .i64 S, .bool true, .int .i64 now, .bool false, .bool false]), (fun W => Row W b3 23 [.int .i64 S, .bool false, .int .i64 now, .bool false, .bool false]), (fun W => Row W b1 25 [.int .i64 0, .int .i64 0, .int .i64 S, .bool false])] ∧ (L 2 = true → vp = [.int .i64 S, .bool true, .int .i64 now, .bool false, .bool false]) ∧ (L 3 = true → vq = [.int .i64 S, .bool false, .int .i64 now, .bool false, .bool false]) ∧ vp.length = 5 ∧ vq.length = 5) (by kernel_rfl) ⟨_, _, ST.out.drew, (fun h => by cases h), (fun h => by cases h), rfl, rfl⟩ ?hstep ?hend
    case hstep =>
      intro L a' W j o hI ho hL hdep
      have hD : DepsOk _ (fun j _ v => (j = 0 → v = .agg #[.int .i64 S, .bool true, .int .i64 now, .bool false, .bool false]) ∧ (j = 1 → v = .agg #[.int .i64 S, .bool false, .int .i64 now, .bool false, .bool false])) o a' W := fun e he hb oj d h1 h2 => hI.2.1 e.on oj d h1 h2 (hdep e he hb)
      obtain ⟨hF, hA, vp, vq, hM, g1, g2, l1, l2⟩ := hI
      match j, ho with
      | 0, ho =>
        obtain rfl := Option.some.inj ho
        exact rel_free ho rfl (wp_load1 23 (.tmp 10) rfl b5 0 [.int .i64 S, .bool true, .int .i64 now, .bool false, .bool false] _ ((free_eval hF (by kernel_rfl)).trans rfl) (show Row _ b5 23 [.int .i64 S, .bool true, .int .i64 now, .bool false, .bool false] from hM.fact (i := 0) rfl).range Tryz.underlying23 rfl (sizeRf _ _ _ _ _) ⟨_, rfl, fun _ _ h => h, fun _ _ => ⟨fun _ => rfl, fun h => absurd h (by decide)⟩, vp, vq, hM, fun h => g1 (by simpa [upd] using h), fun h => g2 (by simpa [upd] using h), l1, l2⟩)
      | 1, ho =>
        obtain rfl := Option.some.inj ho
        exact rel_free ho rfl (wp_load1 23 (.tmp 8) rfl b3 0 [.int .i64 S, .bool false, .int .i64 now, .bool false, .bool false] _ ((free_eval hF (by kernel_rfl)).trans rfl) (show Row _ b3 23 [.int .i64 S, .bool false, .int .i64 now, .bool false, .bool false] from hM.fact (i := 1) rfl).range Tryz.underlying23 rfl (sizeRf _ _ _ _ _) ⟨_, rfl, fun _ _ h => h, fun _ _ => ⟨fun h => absurd h (by decide), fun _ => rfl⟩, vp, vq, hM, fun h => g1 (by simpa [upd] using h), fun h => g2 (by simpa [upd] using h), l1, l2⟩)
      | 2, ho =>
        obtain rfl := Option.some.inj ho
        have hy := (dep_eval hD 0 (d := 82) (by kernel_rfl) rfl rfl).1 rfl
        have ht := (hM.row (i := 0) rfl).there
        rw [l1] at ht
        exact rel_free ho rfl (wp_store_mid 23 (.tmp 12) (.tmp 82) rfl p 0 #[.int .i64 S, .bool true, .int .i64 now, .bool false, .bool false] ((free_eval hF (by kernel_rfl)).trans rfl) hy ht (sizeRf _ _ _ _ _) (all_oneCell_toArray (rf_one _ _ _ _ _)) ⟨undef, rfl, fun _ _ h => h, (fun d h => by cases h), [.int .i64 S, .bool true, .int .i64 now, .bool false, .bool false], vq, mine_put hM [.int .i64 S, .bool true, .int .i64 now, .bool false, .bool false] (i := 0) rfl l1, fun _ => rfl, fun h => g2 (by simpa [upd] using h), rfl, l2⟩)
      | 3, ho =>
        obtain rfl := Option.some.inj ho
        have hy := (dep_eval hD 1 (d := 83) (by kernel_rfl) rfl rfl).2 rfl
        have ht := (hM.row (i := 1) rfl).there
        rw [l2] at ht
        exact rel_free ho rfl (wp_store_mid 23 (.tmp 13) (.tmp 83) rfl q 0 #[.int .i64 S, .bool false, .int .i64 now, .bool false, .bool false] ((free_eval hF (by kernel_rfl)).trans rfl) hy ht (sizeRf _ _ _ _ _) (all_oneCell_toArray (rf_one _ _ _ _ _)) ⟨undef, rfl, fun _ _ h => h, (fun d h => by cases h), vp, [.int .i64 S, .bool false, .int .i64 now, .bool false, .bool false], mine_put hM [.int .i64 S, .bool false, .int .i64 now, .bool false, .bool false] (i := 1) rfl l2, fun h => g1 (by simpa [upd] using h), fun _ => rfl, l1, rfl⟩)
      | j + 4, ho => exact absurd ho (by simp)
    case hend =>
      intro L a' W hF hA hall hG
      obtain ⟨vp, vq, hM, g1, g2, _, _⟩ := hG
      obtain rfl := g1 (hall 2 (by simp))
      obtain rfl := g2 (hall 3 (by simp))
      have hx := act_two (d0 := 82) (d1 := 83) hF (fun i o ho => by
        match i, ho with
        | 0, ho => obtain rfl := Option.some.inj ho; exact .inl rfl
        | 1, ho => obtain rfl := Option.some.inj ho; exact .inr (.inl rfl)
        | 2, ho => obtain rfl := Option.some.inj ho; exact .inr (.inr rfl)
        | 3, ho => obtain rfl := Option.some.inj ho; exact .inr (.inr rfl)
        | i + 4, ho => exact absurd ho (by simp)) ((hA 0 _ 82 rfl rfl).1 rfl) ((hA 1 _ 83 rfl rfl).2 rfl) (of_decide_eq_true (by kernel_rfl)) (of_decide_eq_true (by kernel_rfl)) (by decide)
      subst hx
      simp only [Act.put, List.setIfInBounds_toArray, List.set_cons_zero, List.set_cons_succ]
      replace ST := Lib.hid hM.rest.rest
      clear hF hA hall hM g1 g2 g12 g13 e1 e2 e3 e4 e5 k8_0 k10_0 k8_1 k10_1 k8_2 k10_2 k8_3 k10_3 k8_4 k10_4
      go_wp2_with (with_reducible refine wpList_loadR rfl 23 (.tmp 12) rfl (show Row _ p 23 [.int .i64 S, .bool true, .int .i64 now, .bool false, .bool false] from ST.out.fact (i := 1) rfl) rfl Tryz.underlying23 rfl (sizeRf _ _ _ _ _) ?_)
      refine (nextt_any S now true false false _).mono ?_
      rintro e X1 ⟨rfl, hb⟩
      rw [next_in z0 z1 z2 (by omega) (.inr rfl), nextR_now ⟨rfl, rfl⟩]
      replace ST := Lib.hid (ST.out.call hb)
      clear hb
      go_wp2_with (with_reducible refine wpList_loadR rfl 23 (.tmp 13) rfl (show Row _ q 23 [.int .i64 S, .bool false, .int .i64 now, .bool false, .bool false] from ST.out.fact (i := 0) rfl) rfl Tryz.underlying23 rfl (sizeRf _ _ _ _ _) ?_)
      obtain ⟨M, hM⟩ : ∃ M, limR S now = M := ⟨_, rfl⟩
      obtain ⟨m1, m2⟩ := lim_in z0 hM
      have HM := Lib.hid hM; clear hM
      obtain ⟨N, hN⟩ : ∃ N, now + 500 * S = N := ⟨_, rfl⟩
      have m3 : N < M := by omega
      have m4 : 0 ≤ N := by omega
      have HN := Lib.hid hN
      rw [HN.out]
      clear hN
      refine (nextt_any S now false false false _).mono ?_
      rintro e X2 ⟨rfl, hb⟩
      rw [next_in z0 z1 z2 (by omega) (.inr rfl), nextR_lim (.inl rfl), HM.out]
      replace ST := Lib.hid (ST.out.call hb)
      clear hb
      go_wp2_with (with_reducible refine wpList_loadR rfl 23 (.tmp 12) rfl (show Row _ p 23 [.int .i64 S, .bool true, .int .i64 now, .bool false, .bool false] from ST.out.fact (i := 1) rfl) rfl Tryz.underlying23 rfl (sizeRf _ _ _ _ _) ?_)
      refine (firet_any S now N true false false _).mono ?_
      rintro e X3 ⟨rfl, hb⟩
      rw [fire_send z0 z1 z2 (by omega) HN.out.symm HM.out m3 (by omega)]
      replace ST := Lib.hid (ST.out.call hb)
      clear hb
      go_upto_region 12 with (fail)
      replace ST := Lib.hid ((show Mine w (X3.alloc (.cells #[.int .i64 S, .bool true, .int .i64 now, .bool true, .bool false] 23)) ((X3.heap.size, 23, [.int .i64 S, .bool true, .int .i64 now, .bool true, .bool false]) :: []) _ from ST.out.alloc 23 [.int .i64 S, .bool true, .int .i64 now, .bool true, .bool false]).rest)
      generalize X3.alloc (.cells #[.int .i64 S, .bool true, .int .i64 now, .bool true, .bool false] 23) = Y4 at *
      generalize X3.heap.size = b4 at *
      go_wp2_with (with_reducible refine wpList_loadR rfl 23 (.tmp 18) rfl (show Row _ b4 23 [.int .i64 S, .bool true, .int .i64 now, .bool true, .bool false] from ST.out.fact (i := 0) rfl) rfl Tryz.underlying23 rfl (sizeRf _ _ _ _ _) ?_)
      refine (nextt_any S now true true false _).mono ?_
      rintro e X5 ⟨rfl, hb⟩
      rw [next_in z0 z1 z2 (by omega) (.inl rfl), nextR_lim (.inr rfl), HM.out]
      replace ST := Lib.hid (ST.out.call hb)
      clear hb
      go_wp2_with (with_reducible refine wpList_loadR rfl 23 (.tmp 18) rfl (show Row _ b4 23 [.int .i64 S, .bool true, .int .i64 now, .bool true, .bool false] from ST.out.fact (i := 0) rfl) rfl Tryz.underlying23 rfl (sizeRf _ _ _ _ _) ?_)
      refine (firet_any S now M true true false _).mono ?_
      rintro e X6 ⟨rfl, hb⟩
      rw [fire_bye z0 z1 z2 (by omega) HM.out (.inr rfl) (.inl rfl) (by omega)]
      replace ST := Lib.hid (ST.out.call hb)
      clear hb
      go_upto_region 16 with (fail)
      replace ST := Lib.hid ((show Mine w (X6.alloc (.cells #[.int .i64 S, .bool true, .int .i64 now, .bool false, .bool true] 23)) ((X6.heap.size, 23, [.int .i64 S, .bool true, .int .i64 now, .bool false, .bool true]) :: []) _ from ST.out.alloc 23 [.int .i64 S, .bool true, .int .i64 now, .bool false, .bool true]).rest)
      generalize X6.alloc (.cells #[.int .i64 S, .bool true, .int .i64 now, .bool false, .bool true] 23) = Y7 at *
      generalize X6.heap.size = b7 at *
      go_wp2_with (with_reducible refine wpList_loadR rfl 23 (.tmp 13) rfl (show Row _ q 23 [.int .i64 S, .bool false, .int .i64 now, .bool false, .bool false] from ST.out.fact (i := 2) rfl) rfl Tryz.underlying23 rfl (sizeRf _ _ _ _ _) ?_)
      refine (firet_any S now M false false false _).mono ?_
      rintro e X8 ⟨rfl, hb⟩
      rw [fire_bye z0 z1 z2 (by omega) HM.out (.inl rfl) (.inr rfl) (by omega)]
      replace ST := Lib.hid (ST.out.call hb)
      clear hb
      go_upto_region 17 with (fail)
      replace ST := Lib.hid ((show Mine w (X8.alloc (.cells #[.int .i64 S, .bool false, .int .i64 now, .bool false, .bool true] 23)) ((X8.heap.size, 23, [.int .i64 S, .bool false, .int .i64 now, .bool false, .bool true]) :: []) _ from ST.out.alloc 23 [.int .i64 S, .bool false, .int .i64 now, .bool false, .bool true]).rest)
      generalize X8.alloc (.cells #[.int .i64 S, .bool false, .int .i64 now, .bool false, .bool true] 23) = Y9 at *
      generalize X8.heap.size = b9 at *
      have k22_4 := (show Row _ b7 23 [.int .i64 S, .bool true, .int .i64 now, .bool false, .bool true] from ST.out.fact (i := 1) rfl).cell 4
      simp only [List.getElem?_cons_succ, List.getElem?_cons_zero] at k22_4
      have k24_4 := (show Row _ b9 23 [.int .i64 S, .bool false, .int .i64 now, .bool false, .bool true] from ST.out.fact (i := 0) rfl).cell 4
      simp only [List.getElem?_cons_succ, List.getElem?_cons_zero] at k24_4
      have k7_2 := (show Row _ b1 25 [.int .i64 0, .int .i64 0, .int .i64 S, .bool false] from ST.out.fact (i := 7) rfl).cell 2
      simp only [List.getElem?_cons_succ, List.getElem?_cons_zero] at k7_2
      have m5 : M ≤ now + 1000 * S := by omega
      have m6 : decide (M ≤ now + 1000 * S) = true := decide_eq_true m5
      go_wp2_with (go_at_call 18; refine (works19_any _ (HS.out.below ST.out.bw) (HK.out.below ST.out.bw)).mono ?_; rintro e W9 ⟨rfl, hb9⟩; replace ST := Lib.hid (ST.out.call hb9); clear hb9)
      go_ret
      exact ⟨rfl, ST.out.bw⟩
theorem one_any (sec now : Int) (c : Bool) (w : World) (c0 : 0 ≤ sec) (c1 : sec ≤ 65535) (z2 : 0 ≤ now) (z3 : now ≤ 65535) (hS : SC w) (hK : KD w) :
    Calls Tryz.prog 4 #[.int .u16 sec, .bool c, .int .u16 now] w fun e w' => e = .returned (.bool true) ∧ Below w.heap.size w w' := by
  cases c
  · exact one_no (90 + sec) sec now w rfl c0 c1 (by omega) (by omega) z2 z3 hS hK
  · exact one_yes (90 + sec) sec now w rfl c0 c1 (by omega) (by omega) z2 z3 hS hK

end Go.Proofs.YtcnkjgjimcddiaaGreatDoor
