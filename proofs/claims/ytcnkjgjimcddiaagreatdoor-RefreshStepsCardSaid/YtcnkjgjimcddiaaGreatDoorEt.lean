/- The law RefreshSteps. -/
import Derived.Test.YtcnkjgjimcddiaaGreatDoorEr
import Derived.Test.YtcnkjgjimcddiaaGreatDoorEh
namespace Go.Proofs.YtcnkjgjimcddiaaGreatDoor
open Go.RowKit

theorem guardR (x y : Operand) (xs ys : Array Value) (w : World) : (eqGuard .neq 23 x y (.agg xs) (.agg ys)).run Tryz.prog w = .ok () w := run_eqGuard_agg w .neq _ x y xs ys (by kernel_rfl)
theorem sameR (a c : Int) (b d e : Bool) (w : World) : (Op.equalIn 10000 23 (.agg #[.int .i64 a, .bool b, .int .i64 c, .bool d, .bool e]) (.agg #[.int .i64 a, .bool b, .int .i64 c, .bool d, .bool e])).run Tryz.prog w = .ok true w := by
  have u3 := Tryz.underlying3
  have u4 := Tryz.underlying4
  have a3 := Tryz.isAgg3
  have a4 := Tryz.isAgg4
  have hS : Tryz.prog.underlying 23 = some (.struct (Tryz.prog.fieldsOf 23)) := by kernel_rfl
  have hp : Tryz.prog.stoodInHeld 23 = false := by kernel_rfl
  rw [show (10000 : Nat) = 9999 + 1 from rfl, run_equalIn_agg w 9999 23 _ _ hS hp]
  simp only [Program.fieldsOf, Tryz.underlying23]
  go_simp
theorem startV_form (k s : Int) (c side : Bool) (now : Int) : ∃ (a : Int) (b : Bool) (t : Int) (d e : Bool) (er : Int), startV k s c side now = .tuple #[.agg #[.int .i64 a, .bool b, .int .i64 t, .bool d, .bool e], .int .u8 er] := by
  unfold startV
  split
  · exact ⟨_, _, _, _, _, _, rfl⟩
  split
  · exact ⟨_, _, _, _, _, _, rfl⟩
  · exact ⟨_, _, _, _, _, _, rfl⟩
theorem doneV_form (s : Int) (o : Bool) (t : Int) (p e ok : Bool) (now : Int) : ∃ (a : Int) (b : Bool) (t' : Int) (d e' : Bool) (ac er : Int), doneV s o t p e ok now = .tuple #[.agg #[.int .i64 a, .bool b, .int .i64 t', .bool d, .bool e'], .int .u8 ac, .int .u8 er] := by
  unfold doneV
  repeat' split
  all_goals exact ⟨_, _, _, _, _, _, _, rfl⟩
theorem fireV_form (s : Int) (o : Bool) (t : Int) (p e : Bool) (now : Int) : ∃ (a : Int) (b : Bool) (t' : Int) (d e' : Bool) (ac er : Int), fireV s o t p e now = .tuple #[.agg #[.int .i64 a, .bool b, .int .i64 t', .bool d, .bool e'], .int .u8 ac, .int .u8 er] := by
  unfold fireV
  repeat' split
  all_goals exact ⟨_, _, _, _, _, _, _, rfl⟩
theorem nextV_form (s : Int) (o : Bool) (t : Int) (p e : Bool) : ∃ (n : Int) (b : Bool), nextV s o t p e = .tuple #[.int .i64 n, .bool b] := by
  unfold nextV
  split
  · exact ⟨_, _, rfl⟩
  · exact ⟨_, _, rfl⟩
theorem refnext_below {w w' : World} {R : Obj} (h : w' = (w.alloc R).alloc R ∨ w' = ((w.alloc R).alloc R).alloc R) : Below w.heap.size w w' := by
  rcases h with rfl | rfl
  · (repeat (first | exact Below.refl _ _ | refine below_toN ?_ _ | refine Below.alloc ?_ (by first | exact Nat.le_refl _ | (simp; done) | (simp; omega)) _ | refine Below.setCell ?_ (Nat.le_refl _) _))
  · (repeat (first | exact Below.refl _ _ | refine below_toN ?_ _ | refine Below.alloc ?_ (by first | exact Nat.le_refl _ | (simp; done) | (simp; omega)) _ | refine Below.setCell ?_ (Nat.le_refl _) _))
theorem idx4 {k : Nat} (hk : k < 4) (a b c d : Int) : ∃ tv : Int, ∀ w, (Instr.index 36 (.agg #[.int .i64 a, .int .i64 b, .int .i64 c, .int .i64 d]) (.int .i64 k)).run Tryz.prog w = .ok (.int .i64 tv) w := by
  rcases k with _ | _ | _ | _ | k
  · exact ⟨a, fun w => by kernel_rfl⟩
  · exact ⟨b, fun w => by kernel_rfl⟩
  · exact ⟨c, fun w => by kernel_rfl⟩
  · exact ⟨d, fun w => by kernel_rfl⟩
  · omega
theorem idx2 {k : Nat} (hk : k < 2) (w : World) : (Instr.index 26 (.agg #[.bool false, .bool true]) (.int .i64 k)).run Tryz.prog w = .ok (.bool (decide (k = 1))) w := by
  rcases k with _ | _ | k
  all_goals first | omega | kernel_rfl
set_option maxRecDepth 100000 in
set_option maxHeartbeats 8000000 in
theorem steps_any (rs rt ak am asx now : Int) (ro rp re ac : Bool) (w : World) (hS : SC w) (hK : KD w) (WK : ∀ w, SC w → KD w → Calls Tryz.prog 18 #[] w fun e w' => e = .returned (.bool true) ∧ Below w.heap.size w w') :
    Calls Tryz.prog 3 #[.agg #[.int .i64 rs, .bool ro, .int .i64 rt, .bool rp, .bool re], .agg #[.int .i64 ak, .int .i64 am, .int .i64 asx, .bool ac], .int .i64 now] w fun e w' => e = .returned (.bool true) ∧ Below w.heap.size w w' := by
  have HS := Lib.hid hS; have HK := Lib.hid hK; have HW := Lib.hid WK
  clear hS hK WK
  have ST := Lib.hid (Mine.refl w)
  go_enter Tryz.func3, Tryz.ntmps3
  go_upto_region 1 with (fail)
  replace ST := Lib.hid ((show Mine w ((w.alloc (.cells #[.int .i64 rs, .bool ro, .int .i64 rt, .bool rp, .bool re] 23)).alloc (.cells #[.int .i64 ak, .int .i64 am, .int .i64 asx, .bool ac] 25)) ((w.heap.size + 1, 25, [.int .i64 ak, .int .i64 am, .int .i64 asx, .bool ac]) :: (w.heap.size, 23, [.int .i64 rs, .bool ro, .int .i64 rt, .bool rp, .bool re]) :: []) _ by
    have h := (ST.out.alloc 23 [.int .i64 rs, .bool ro, .int .i64 rt, .bool rp, .bool re]).alloc 25 [.int .i64 ak, .int .i64 am, .int .i64 asx, .bool ac]
    rw [World.size_alloc] at h
    exact h).rest.rest)
  replace ST := Lib.hid (show Mine w _ [] [(fun W => Row W (w.heap.size + 1) 25 [.int .i64 ak, .int .i64 am, .int .i64 asx, .bool ac]), (fun W => Row W w.heap.size 23 [.int .i64 rs, .bool ro, .int .i64 rt, .bool rp, .bool re])] from ST.out.less (fun F hF => by
    simp only [List.mem_cons, List.not_mem_nil, or_false] at hF ⊢
    rcases hF with rfl | rfl
    · exact .inr rfl
    · exact .inl rfl))
  generalize (w.alloc (.cells #[.int .i64 rs, .bool ro, .int .i64 rt, .bool rp, .bool re] 23)).alloc (.cells #[.int .i64 ak, .int .i64 am, .int .i64 asx, .bool ac] 25) = Y0 at *
  go_wp2_with fail
  go_loopw [30] (fun v wr => ∃ k : Nat, k ≤ 2 ∧ v = .int .i64 k ∧ Hid (Mine w wr [] [(fun W => Row W (w.heap.size + 1) 25 [.int .i64 ak, .int .i64 am, .int .i64 asx, .bool ac]), (fun W => Row W w.heap.size 23 [.int .i64 rs, .bool ro, .int .i64 rt, .bool rp, .bool re])])) (fun v _ => 2 - (intOf v).toNat)
  case atStart => exact ⟨0, by omega, rfl, ST⟩
  case round =>
    clear ST
    obtain ⟨k, hk, rfl, ST⟩ := hrel
    by_cases hlt : k < 2
    · have hd : decide ((k : Int) < 2) = true := by simp; omega
      have dx := fun w => idx2 hlt w
      obtain ⟨sd, hsd⟩ : ∃ sd, decide (k = 1) = sd := ⟨_, rfl⟩
      rw [hsd] at dx
      clear hsd
      obtain ⟨x1, x2, x3, x4, x5, x6, hx⟩ := startV_form ak asx ac sd now
      have HX := Lib.hid hx
      clear hx
      go_wp2_with (with_reducible refine wpList_loadR rfl 25 (.tmp 4) rfl (show Row _ (w.heap.size + 1) 25 [.int .i64 ak, .int .i64 am, .int .i64 asx, .bool ac] from ST.out.fact (i := 0) rfl) rfl Tryz.underlying25 rfl (sizeAg _ _ _ _) ?_)
      refine (startt_any ak am asx now ac sd _).mono ?_
      rintro e X1 ⟨rfl, hb⟩
      rw [HX.out]
      replace ST := Lib.hid (ST.out.call hb)
      clear hb
      go_upto_region 5 with (fail)
      replace ST := Lib.hid ((show Mine w (X1.alloc (.cells #[.int .i64 x1, .bool x2, .int .i64 x3, .bool x4, .bool x5] 23)) ((X1.heap.size, 23, [.int .i64 x1, .bool x2, .int .i64 x3, .bool x4, .bool x5]) :: []) _ from ST.out.alloc 23 [.int .i64 x1, .bool x2, .int .i64 x3, .bool x4, .bool x5]).rest)
      generalize X1.alloc (.cells #[.int .i64 x1, .bool x2, .int .i64 x3, .bool x4, .bool x5] 23) = Y2 at *
      generalize X1.heap.size = b2 at *
      go_wp2_with (with_reducible refine wpList_loadR rfl 25 (.tmp 4) rfl (show Row _ (w.heap.size + 1) 25 [.int .i64 ak, .int .i64 am, .int .i64 asx, .bool ac] from ST.out.fact (i := 1) rfl) rfl Tryz.underlying25 rfl (sizeAg _ _ _ _) ?_)
      refine (refstart_any ak am asx now ac sd _).mono ?_
      rintro e X3 ⟨rfl, hb⟩
      rw [HX.out]
      replace ST := Lib.hid (ST.out.call hb)
      clear hb
      go_upto_region 6 with (fail)
      replace ST := Lib.hid ((show Mine w (X3.alloc (.cells #[.int .i64 x1, .bool x2, .int .i64 x3, .bool x4, .bool x5] 23)) ((X3.heap.size, 23, [.int .i64 x1, .bool x2, .int .i64 x3, .bool x4, .bool x5]) :: []) _ from ST.out.alloc 23 [.int .i64 x1, .bool x2, .int .i64 x3, .bool x4, .bool x5]).rest)
      generalize X3.alloc (.cells #[.int .i64 x1, .bool x2, .int .i64 x3, .bool x4, .bool x5] 23) = Y4 at *
      generalize X3.heap.size = b4 at *
      have hg := guardR; have sR := sameR
      have hse : ∀ (xs ys : Array Value) (w : World), (binOp .neq 23 (.agg xs) (.agg ys)).run Tryz.prog w = ((Op.equalIn 10000 23 (.agg xs) (.agg ys)).run Tryz.prog w).andThen fun b w' => .ok (.bool (!b)) w' := fun xs ys w => run_neq_struct w _ xs ys
      go_upto_region 8 with (first | (with_reducible refine wpList_loadR rfl 23 (.tmp 9) rfl (show Row _ b2 23 [.int .i64 x1, .bool x2, .int .i64 x3, .bool x4, .bool x5] from ST.out.fact (i := 1) rfl) rfl Tryz.underlying23 rfl (sizeRf _ _ _ _ _) ?_) | (with_reducible refine wpList_loadR rfl 23 (.tmp 11) rfl (show Row _ b4 23 [.int .i64 x1, .bool x2, .int .i64 x3, .bool x4, .bool x5] from ST.out.fact (i := 0) rfl) rfl Tryz.underlying23 rfl (sizeRf _ _ _ _ _) ?_))
      clear hg sR hse
      obtain ⟨y1, y2, y3, y4, y5, y6, y7, hy⟩ := doneV_form rs ro rt rp re sd now
      have HY := Lib.hid hy
      clear hy
      go_wp2_with (with_reducible refine wpList_loadR rfl 23 (.tmp 3) rfl (show Row _ w.heap.size 23 [.int .i64 rs, .bool ro, .int .i64 rt, .bool rp, .bool re] from ST.out.fact (i := 3) rfl) rfl Tryz.underlying23 rfl (sizeRf _ _ _ _ _) ?_)
      refine (donet_any rs rt now ro rp re sd _).mono ?_
      rintro e X5 ⟨rfl, hb⟩
      rw [HY.out]
      replace ST := Lib.hid (ST.out.call hb)
      clear hb
      go_upto_region 9 with (fail)
      replace ST := Lib.hid ((show Mine w (X5.alloc (.cells #[.int .i64 y1, .bool y2, .int .i64 y3, .bool y4, .bool y5] 23)) ((X5.heap.size, 23, [.int .i64 y1, .bool y2, .int .i64 y3, .bool y4, .bool y5]) :: []) _ from ST.out.alloc 23 [.int .i64 y1, .bool y2, .int .i64 y3, .bool y4, .bool y5]).rest)
      generalize X5.alloc (.cells #[.int .i64 y1, .bool y2, .int .i64 y3, .bool y4, .bool y5] 23) = Y6 at *
      generalize X5.heap.size = b6 at *
      go_wp2_with (with_reducible refine wpList_loadR rfl 23 (.tmp 3) rfl (show Row _ w.heap.size 23 [.int .i64 rs, .bool ro, .int .i64 rt, .bool rp, .bool re] from ST.out.fact (i := 4) rfl) rfl Tryz.underlying23 rfl (sizeRf _ _ _ _ _) ?_)
      refine (refdone_any rs rt now ro rp re sd _).mono ?_
      rintro e X7 ⟨rfl, hb⟩
      rw [HY.out]
      replace ST := Lib.hid (ST.out.call hb)
      clear hb
      go_upto_region 10 with (fail)
      replace ST := Lib.hid ((show Mine w (X7.alloc (.cells #[.int .i64 y1, .bool y2, .int .i64 y3, .bool y4, .bool y5] 23)) ((X7.heap.size, 23, [.int .i64 y1, .bool y2, .int .i64 y3, .bool y4, .bool y5]) :: []) _ from ST.out.alloc 23 [.int .i64 y1, .bool y2, .int .i64 y3, .bool y4, .bool y5]).rest)
      generalize X7.alloc (.cells #[.int .i64 y1, .bool y2, .int .i64 y3, .bool y4, .bool y5] 23) = Y8 at *
      generalize X7.heap.size = b8 at *
      have hg := guardR; have sR := sameR
      have hse : ∀ (xs ys : Array Value) (w : World), (binOp .neq 23 (.agg xs) (.agg ys)).run Tryz.prog w = ((Op.equalIn 10000 23 (.agg xs) (.agg ys)).run Tryz.prog w).andThen fun b w' => .ok (.bool (!b)) w' := fun xs ys w => run_neq_struct w _ xs ys
      go_wp2_with (first | (with_reducible refine wpList_loadR rfl 23 (.tmp 13) rfl (show Row _ b6 23 [.int .i64 y1, .bool y2, .int .i64 y3, .bool y4, .bool y5] from ST.out.fact (i := 1) rfl) rfl Tryz.underlying23 rfl (sizeRf _ _ _ _ _) ?_) | (with_reducible refine wpList_loadR rfl 23 (.tmp 15) rfl (show Row _ b8 23 [.int .i64 y1, .bool y2, .int .i64 y3, .bool y4, .bool y5] from ST.out.fact (i := 0) rfl) rfl Tryz.underlying23 rfl (sizeRf _ _ _ _ _) ?_))
      clear hg sR hse
      go_roundw
      case rel => exact ⟨k + 1, by omega, by go_num, Lib.hid (show Mine w _ [] [(fun W => Row W (w.heap.size + 1) 25 [.int .i64 ak, .int .i64 am, .int .i64 asx, .bool ac]), (fun W => Row W w.heap.size 23 [.int .i64 rs, .bool ro, .int .i64 rt, .bool rp, .bool re])] from ST.out.less (fun F hF => by
          simp only [List.mem_cons, List.not_mem_nil, or_false] at hF ⊢
          rcases hF with rfl | rfl <;> simp))⟩
      case measure => simp [intOf]; omega
    · obtain rfl : k = 2 := by omega
      rw [show ((2 : Nat) : Int) = (2 : Int) from rfl]
      obtain ⟨n1, n2, hn⟩ := nextV_form rs ro rt rp re
      have HN := Lib.hid hn
      clear hn
      go_wp2_with (with_reducible refine wpList_loadR rfl 23 (.tmp 3) rfl (show Row _ w.heap.size 23 [.int .i64 rs, .bool ro, .int .i64 rt, .bool rp, .bool re] from ST.out.fact (i := 1) rfl) rfl Tryz.underlying23 rfl (sizeRf _ _ _ _ _) ?_)
      refine (nextt_any rs rt ro rp re _).mono ?_
      rintro e X1 ⟨rfl, hb⟩
      rw [HN.out]
      replace ST := Lib.hid (ST.out.call hb)
      clear hb
      go_wp2_with (with_reducible refine wpList_loadR rfl 23 (.tmp 3) rfl (show Row _ w.heap.size 23 [.int .i64 rs, .bool ro, .int .i64 rt, .bool rp, .bool re] from ST.out.fact (i := 1) rfl) rfl Tryz.underlying23 rfl (sizeRf _ _ _ _ _) ?_)
      refine ((refnext_any rs rt ro rp re _).mono fun e w' ⟨he, hw⟩ => (⟨he, refnext_below hw⟩ : _ ∧ Below _ _ w')).mono ?_
      rintro e X2 ⟨rfl, hb⟩
      rw [HN.out]
      replace ST := Lib.hid (ST.out.call hb)
      clear hb
      obtain ⟨mb, hmb⟩ : ∃ mb, mayR rs ro rt rp re = mb := ⟨_, rfl⟩
      have MY := Lib.hid (fun w => mayt_any rs rt ro rp re w); have MZ := Lib.hid (fun w => refmay_any rs rt ro rp re w)
      rw [hmb] at MY MZ
      clear hmb
      go_wp2_with fail
      have RB := Lib.hid (show Row X2 w.heap.size 23 [.int .i64 rs, .bool ro, .int .i64 rt, .bool rp, .bool re] from ST.out.fact (i := 1) rfl)
      refine region_bw (by kernel_rfl) (by kernel_rfl) ?_
      go_big_quiet_want
      refine quiet_load 23 (.tmp 3) rfl w.heap.size rfl [.int .i64 rs, .bool ro, .int .i64 rt, .bool rp, .bool re] 23 _ RB.out Tryz.underlying23 rfl (sizeRf _ _ _ _ _) ?_
      simp only [Act.put, List.setIfInBounds_toArray, List.set_cons_zero, List.set_cons_succ]
      go_big_quiet_on
      go_big_quiet_step (exact calls_bw ((MY.out _).mono fun e w' ⟨he, hw⟩ => ⟨he, by rw [hw]; exact (Below.refl _ _).alloc (Nat.le_refl _) _⟩))
      go_big_quiet_want
      refine quiet_load 23 (.tmp 3) rfl w.heap.size rfl [.int .i64 rs, .bool ro, .int .i64 rt, .bool rp, .bool re] 23 _ RB.out Tryz.underlying23 rfl (sizeRf _ _ _ _ _) ?_
      simp only [Act.put, List.setIfInBounds_toArray, List.set_cons_zero, List.set_cons_succ]
      go_big_quiet_on
      go_big_quiet_step (exact calls_bw ((MZ.out _).mono fun e w' ⟨he, hw⟩ => ⟨he, by rw [hw]; exact (Below.refl _ _).alloc (Nat.le_refl _) _⟩))
      repeat go_big_quiet_step (fail)
      refine wpQuiet_nil ?_
      rintro _ ⟨x, rfl⟩
      replace ST := Lib.hid (ST.out.call x.h)
      generalize x.w = W9 at *
      clear RB MY MZ HN
      go_wp2_with fail
      go_loopw [117] (fun v wr => ∃ k : Nat, k ≤ 4 ∧ v = .int .i64 k ∧ Hid (Mine w wr [] [(fun W => Row W (w.heap.size + 1) 25 [.int .i64 ak, .int .i64 am, .int .i64 asx, .bool ac]), (fun W => Row W w.heap.size 23 [.int .i64 rs, .bool ro, .int .i64 rt, .bool rp, .bool re])])) (fun v _ => 4 - (intOf v).toNat)
      case atStart => exact ⟨0, by omega, rfl, Lib.hid (show Mine w _ [] [(fun W => Row W (w.heap.size + 1) 25 [.int .i64 ak, .int .i64 am, .int .i64 asx, .bool ac]), (fun W => Row W w.heap.size 23 [.int .i64 rs, .bool ro, .int .i64 rt, .bool rp, .bool re])] from ST.out)⟩
      case round =>
        clear ST
        obtain ⟨k, hk, rfl, ST⟩ := hrel
        by_cases hlt : k < 4
        · have hd : decide ((k : Int) < 4) = true := by simp; omega
          obtain ⟨tv, dx⟩ : ∃ tv : Int, ∀ w, (Instr.index 36 (.agg #[.int .i64 now, .int .i64 n1, .int .i64 (wrap64 (n1 - 1)), .int .i64 (wrap64 (n1 + 1))]) (.int .i64 k)).run Tryz.prog w = .ok (.int .i64 tv) w := idx4 hlt _ _ _ _
          obtain ⟨z1, z2, z3, z4, z5, z6, z7, hz⟩ := fireV_form rs ro rt rp re tv
          have HZ := Lib.hid hz
          clear hz
          go_wp2_with (with_reducible refine wpList_loadR rfl 23 (.tmp 3) rfl (show Row _ w.heap.size 23 [.int .i64 rs, .bool ro, .int .i64 rt, .bool rp, .bool re] from ST.out.fact (i := 1) rfl) rfl Tryz.underlying23 rfl (sizeRf _ _ _ _ _) ?_)
          refine (firet_any rs rt tv ro rp re _).mono ?_
          rintro e X1 ⟨rfl, hb⟩
          rw [HZ.out]
          replace ST := Lib.hid (ST.out.call hb)
          clear hb
          go_upto_region 21 with (fail)
          replace ST := Lib.hid ((show Mine w (X1.alloc (.cells #[.int .i64 z1, .bool z2, .int .i64 z3, .bool z4, .bool z5] 23)) ((X1.heap.size, 23, [.int .i64 z1, .bool z2, .int .i64 z3, .bool z4, .bool z5]) :: []) _ from ST.out.alloc 23 [.int .i64 z1, .bool z2, .int .i64 z3, .bool z4, .bool z5]).rest)
          generalize X1.alloc (.cells #[.int .i64 z1, .bool z2, .int .i64 z3, .bool z4, .bool z5] 23) = Y2 at *
          generalize X1.heap.size = b2 at *
          go_wp2_with (with_reducible refine wpList_loadR rfl 23 (.tmp 3) rfl (show Row _ w.heap.size 23 [.int .i64 rs, .bool ro, .int .i64 rt, .bool rp, .bool re] from ST.out.fact (i := 2) rfl) rfl Tryz.underlying23 rfl (sizeRf _ _ _ _ _) ?_)
          refine (reffire_any rs rt tv ro rp re _).mono ?_
          rintro e X3 ⟨rfl, hb⟩
          rw [HZ.out]
          replace ST := Lib.hid (ST.out.call hb)
          clear hb
          go_upto_region 22 with (fail)
          replace ST := Lib.hid ((show Mine w (X3.alloc (.cells #[.int .i64 z1, .bool z2, .int .i64 z3, .bool z4, .bool z5] 23)) ((X3.heap.size, 23, [.int .i64 z1, .bool z2, .int .i64 z3, .bool z4, .bool z5]) :: []) _ from ST.out.alloc 23 [.int .i64 z1, .bool z2, .int .i64 z3, .bool z4, .bool z5]).rest)
          generalize X3.alloc (.cells #[.int .i64 z1, .bool z2, .int .i64 z3, .bool z4, .bool z5] 23) = Y4 at *
          generalize X3.heap.size = b4 at *
          have hg := guardR; have sR := sameR
          have hse : ∀ (xs ys : Array Value) (w : World), (binOp .neq 23 (.agg xs) (.agg ys)).run Tryz.prog w = ((Op.equalIn 10000 23 (.agg xs) (.agg ys)).run Tryz.prog w).andThen fun b w' => .ok (.bool (!b)) w' := fun xs ys w => run_neq_struct w _ xs ys
          go_wp2_with (first | (with_reducible refine wpList_loadR rfl 23 (.tmp 23) rfl (show Row _ b2 23 [.int .i64 z1, .bool z2, .int .i64 z3, .bool z4, .bool z5] from ST.out.fact (i := 1) rfl) rfl Tryz.underlying23 rfl (sizeRf _ _ _ _ _) ?_) | (with_reducible refine wpList_loadR rfl 23 (.tmp 26) rfl (show Row _ b4 23 [.int .i64 z1, .bool z2, .int .i64 z3, .bool z4, .bool z5] from ST.out.fact (i := 0) rfl) rfl Tryz.underlying23 rfl (sizeRf _ _ _ _ _) ?_))
          clear hg sR hse
          go_roundw
          case rel => exact ⟨k + 1, by omega, by go_num, Lib.hid (show Mine w _ [] [(fun W => Row W (w.heap.size + 1) 25 [.int .i64 ak, .int .i64 am, .int .i64 asx, .bool ac]), (fun W => Row W w.heap.size 23 [.int .i64 rs, .bool ro, .int .i64 rt, .bool rp, .bool re])] from ST.out.less (fun F hF => by
              simp only [List.mem_cons, List.not_mem_nil, or_false] at hF ⊢
              rcases hF with rfl | rfl <;> simp))⟩
          case measure => simp [intOf]; omega
        · obtain rfl : k = 4 := by omega
          rw [show ((4 : Nat) : Int) = (4 : Int) from rfl]
          go_wp2_with fail
          refine (HW.out _ (HS.out.below ST.out.bw) (HK.out.below ST.out.bw)).mono ?_
          rintro e X ⟨rfl, hb⟩
          replace ST := Lib.hid (ST.out.call hb)
          clear hb
          go_wp2_with fail
          go_ret
          exact ⟨rfl, ST.out.bw⟩
end Go.Proofs.YtcnkjgjimcddiaaGreatDoor
