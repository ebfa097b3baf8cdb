/- The laws HashFeeds and HashSums. -/
import Derived.Test.YtldonfgdomeacaaDoorRl
import Derived.Test.YtldonfgdomeacaaDoorLb
namespace Go.Proofs.YtldonfgdomeacaaDoor
open Go.RowKit

theorem start_row (w : World) : Calls Tryd.prog 16 #[] w fun e w' => e = .returned (.agg (hsL startH).toArray) ∧ Below w.heap.size w w' := start_any w
set_option maxRecDepth 100000 in
theorem refsum_any (A : Option Addr) (m c : Nat) (bs : List Int) (w : World) (hb : By bs) (hA : Bs w w.heap.size A bs) (hm : bs.length = m) (hM : m ≤ 8192) :
    Calls Tryd.prog 12 #[.slice A m c] w fun e w' => e = .returned (.agg (U8 (sumH bs)).toArray) ∧ Below w.heap.size w w' := by
  have HB := Lib.hid hb; have HA := Lib.hid hA; have HM := Lib.hid hm
  clear hb hA hm
  go_enter Tryd.func12, Tryd.ntmps12
  go_upto_region 0 with fail
  go_cut [2] (fun v wx => OneRow w v wx)
  case first =>
    go_wp2_with (with_reducible refine wpList_value rfl _ _ (exec_alloc rfl zero24) ?_)
    go_meet
    exact ⟨rfl, Row.new w 24 _, (Below.refl _ _).alloc (Nat.le_refl _) _⟩
  case rest =>
    obtain ⟨rfl, R, B1⟩ := hcut
    obtain ⟨w1, rfl⟩ : ∃ w1 : World, w1 = wc := ⟨_, rfl⟩
    have R1 := Lib.hid R; have BW := Lib.hid B1
    clear R B1
    go_wp2_with fail
    refine (refstart_any _).mono ?_
    rintro e w2 ⟨rfl, hb2⟩
    have BW2 := Lib.hid (BW.out.trans (hb2.mono BW.out.size))
    have R2 := Lib.hid (R1.out.below hb2)
    clear hb2 R1 BW
    go_wp2_with fail
    refine (reffeed_any startH A m c bs w2 startH_range HB.out ((HA.out.below BW2.out).up BW2.out.size) HM.out hM).mono ?_
    rintro e w3 ⟨rfl, hb3⟩
    have BW3 := Lib.hid (BW2.out.trans (hb3.mono BW2.out.size))
    have R3 := Lib.hid (R2.out.below hb3)
    clear hb3 R2 BW2
    go_wp2_with fail
    refine (reffinish_any (feedH startH bs) w3 (feedH_range startH_range HB.out)).mono ?_
    rintro e w4 ⟨rfl, hb4⟩
    have BW4 := Lib.hid (BW3.out.trans (hb4.mono BW3.out.size))
    have R4 := Lib.hid (R3.out.below hb4)
    clear hb4 R3 BW3
    have SE := Lib.hid (show sumH bs = finH (feedH startH bs) from rfl)
    have LE := Lib.hid (show (U8 (finH (feedH startH bs))).length = 32 by simp [U8, finH_len])
    have ONE := Lib.hid (U8_one (finH (feedH startH bs)))
    have KEY := Lib.hid (R4.out.setAll (U8 (finH (feedH startH bs))) (by rw [LE.out]; rfl))
    generalize finH (feedH startH bs) = f at *
    go_wp2_with (with_reducible refine wpList_store_mid rfl 24 (.tmp 2) (.tmp 6) rfl w.heap.size 0 _ rfl rfl ?ht ?hi ?h1 ?_)
    case ht => rw [show (U8 f).toArray.size = 32 from LE.out]; exact R4.out.there
    case hi => rw [show (U8 f).toArray.size = 32 from LE.out]; first | exact info24 | exact info24b
    case h1 => exact ONE.out
    exact bodyPost_ret (results_cell rfl _ _ _ w.heap.size (U8 f) _ rfl KEY.out.range Tryd.underlying24 rfl (by rw [LE.out]; exact info24)) rfl ⟨by rw [SE.out], below_setCells (Nat.le_refl _) _ _ _ BW4.out⟩
set_option maxRecDepth 100000 in
set_option maxHeartbeats 400000 in
theorem feeds_any (w : World) (s : HS) (hs : HSR s) (A : Option Addr) (n c : Nat) (bs : List Int) (hb : By bs) (hn : bs.length = n) (hc : n ≤ c) (hA : Bs w w.heap.size A bs) (hK : KC w) :
    Calls Tryd.prog 4 #[hsV s, .slice A n c] w fun e w' => e = .returned (.bool true) ∧ Below w.heap.size w w' := by
  have SO := Lib.hid hs; have HB := Lib.hid hb; have HN := Lib.hid hn; have HA := Lib.hid hA; have HK := Lib.hid hK
  clear hs hb hn hA hK
  unfold hsV
  have R0 := Lib.hid (Row.new w 32 (hsL s))
  have B0 := Lib.hid (show Below w.heap.size w (w.alloc (.cells (hsL s).toArray 32)) from (Below.refl _ _).alloc (Nat.le_refl _) _)
  have LEN := Lib.hid (hsL_len SO.out.2.2.1)
  by_cases h1 : 4000 < n
  · have d1 : decide (4000 < (n : Int)) = true := by simp; omega
    go_enter Tryd.func4, Tryd.ntmps4
    go_wp2_with fail
    refine (lives_any _ (HK.out.below B0.out)).mono ?_
    rintro e w1 ⟨rfl, hb1⟩
    have B1 := Lib.hid (B0.out.trans (hb1.mono B0.out.size))
    clear hb1
    go_wp2_with fail
    go_ret
    exact ⟨rfl, B1.out⟩
  · have d1 : decide (4000 < (n : Int)) = false := by simp; omega
    have K2 := Lib.hid (HK.out.below B0.out)
    have HA2 := Lib.hid ((HA.out.below B0.out).up B0.out.size)
    have EQ1 := fun w => eq32 startH startH_range w
    have EQ2 := fun w => eq32 (feedH s bs) (feedH_range SO.out HB.out) w
    have EQ3 := fun w => eq24 (finH s) (finH_len s) (finH_by s) w
    go_enter Tryd.func4, Tryd.ntmps4
    go_wp2_with fail
    refine region_bw (by kernel_rfl) (by kernel_rfl) ?_
    go_big_quiet_step (exact calls_bw (start_row _))
    go_big_quiet_step (exact calls_bw (refstart_any _))
    go_big_quiet_step (fail)
    go_big_quiet_step (fail)
    go_big_quiet_want
    refine quiet_load 32 (.tmp 2) rfl w.heap.size rfl (hsL s) 32 _ R0.out Tryd.underlying32 rfl (by rw [LEN.out]; exact info32) ?_
    simp only [Act.put, List.setIfInBounds_toArray, List.set_cons_zero, List.set_cons_succ]
    go_big_quiet_on
    go_big_quiet_step (fail)
    go_big_quiet_step (exact calls_bw (feed_row s A n c bs _ SO.out HB.out ((HA2.out.below (BW.h _)).up (BW.h _).size) HN.out hc (by omega) (K2.out.below (BW.h _))))
    go_big_quiet_want
    refine quiet_load 32 (.tmp 2) rfl w.heap.size rfl (hsL s) 32 _ R0.out Tryd.underlying32 rfl (by rw [LEN.out]; exact info32) ?_
    simp only [Act.put, List.setIfInBounds_toArray, List.set_cons_zero, List.set_cons_succ]
    go_big_quiet_on
    go_big_quiet_step (fail)
    go_big_quiet_step (exact calls_bw (reffeed_any s A n c bs _ SO.out HB.out ((HA2.out.below (BW.h _)).up (BW.h _).size) HN.out (by omega)))
    go_big_quiet_step (fail)
    go_big_quiet_step (fail)
    go_big_quiet_step (fail)
    go_big_quiet_want
    refine quiet_load 32 (.tmp 2) rfl w.heap.size rfl (hsL s) 32 _ R0.out Tryd.underlying32 rfl (by rw [LEN.out]; exact info32) ?_
    simp only [Act.put, List.setIfInBounds_toArray, List.set_cons_zero, List.set_cons_succ]
    go_big_quiet_on
    go_big_quiet_step (exact calls_bw (finish_row s _ SO.out (K2.out.below (BW.h _))))
    go_big_quiet_want
    refine quiet_load 32 (.tmp 2) rfl w.heap.size rfl (hsL s) 32 _ R0.out Tryd.underlying32 rfl (by rw [LEN.out]; exact info32) ?_
    simp only [Act.put, List.setIfInBounds_toArray, List.set_cons_zero, List.set_cons_succ]
    go_big_quiet_on
    go_big_quiet_step (exact calls_bw (reffinish_any s _ SO.out))
    go_big_quiet_step (fail)
    go_big_quiet_step (fail)
    go_big_quiet_step (fail)
    go_big_quiet_step (exact calls_bw (lives_any _ (K2.out.below (BW.h _))))
    go_big_quiet_step (fail)
    go_big_quiet_step (fail)
    refine wpQuiet_nil ?_
    intro w9 hw9
    obtain ⟨x, rfl⟩ := hw9
    have BX := Lib.hid (B0.out.trans (x.h.mono B0.out.size))
    clear EQ1 EQ2 EQ3
    go_wp2_with fail
    go_ret
    exact ⟨rfl, BX.out⟩
theorem exec_conv {ρ : Operand → Value} {op : Oper} {x : Operand} {v r : Value} {w : World} (ho : op.op = .convert 22 9 x) (hx : ρ x = v) (hrun : (convert 22 9 v).run Tryd.prog w = .ok r w) : (execOp ρ op).run Tryd.prog w = .ok (.value r) w := by
  unfold execOp
  simp only [ho, hx, Sem.run_bind, hrun, Result.andThen_ok, Sem.run_pure]
set_option maxRecDepth 100000 in
set_option maxHeartbeats 400000 in
theorem sums_any (w : World) (A : Option Addr) (n c : Nat) (bs : List Int) (hb : By bs) (hn : bs.length = n) (hc : n ≤ c) (hA : Bs w w.heap.size A bs) (hK : KC w) :
    Calls Tryd.prog 3 #[.slice A n c] w fun e w' => e = .returned (.bool true) ∧ Below w.heap.size w w' := by
  have HB := Lib.hid hb; have HN := Lib.hid hn; have HA := Lib.hid hA; have HK := Lib.hid hK
  clear hb hn hA hK
  by_cases h1 : 4000 < n
  · have d1 : decide (4000 < (n : Int)) = true := by simp; omega
    go_enter Tryd.func3, Tryd.ntmps3
    go_wp2_with fail
    refine (lives_any _ HK.out).mono ?_
    rintro e w1 ⟨rfl, hb1⟩
    go_wp2_with fail
    go_ret
    exact ⟨rfl, hb1⟩
  · have d1 : decide (4000 < (n : Int)) = false := by simp; omega
    have LE24 := Lib.hid (show (U8 (sumH bs)).length = 32 by simp [U8, sumH_len])
    have ONE := Lib.hid (U8_one (sumH bs))
    have SE := Lib.hid (show sumH bs = finH (feedH startH bs) from rfl)
    have BS := Lib.hid (show strOfNums (textH (byteL (strOfNums bs))) = strOfNums (hexL (sumH bs)) by rw [byteL_str HB.out]; rfl)
    go_enter Tryd.func3, Tryd.ntmps3
    go_wp2_with fail
    refine (refsum_any A n c bs w HB.out HA.out HN.out (by omega)).mono ?_
    rintro e w1 ⟨rfl, hb1⟩
    have B1 := Lib.hid hb1
    have RN := Lib.hid (Row.new w1 24 (U8 (List.replicate 32 0)))
    have TH := Lib.hid RN.out.there
    clear hb1
    obtain ⟨B, hB⟩ : ∃ B, B = w1.heap.size := ⟨_, rfl⟩
    have R1' := Lib.hid (RN.out.setAll (U8 (sumH bs)) (by rw [LE24.out]; rfl))
    have B2' := Lib.hid (show Below w.heap.size w ((w1.alloc (.cells (U8 (List.replicate 32 0)).toArray 24)).setCells w1.heap.size 0 (U8 (sumH bs))) from below_setCells B1.out.size _ _ _ (B1.out.alloc B1.out.size _))
    go_upto_region 4 with (first
      | (with_reducible refine wpList_value rfl _ _ (exec_alloc rfl zero24) ?_)
      | (with_reducible refine wpList_store_mid rfl 24 (.tmp 3) (.tmp 9) rfl w1.heap.size 0 _ rfl rfl ?ht ?hi ?h1 ?_))
    case ht => rw [show (U8 (sumH bs)).toArray.size = 32 from LE24.out]; exact TH.out
    case hi => rw [show (U8 (sumH bs)).toArray.size = 32 from LE24.out]; first | exact info24 | exact info24b
    case h1 => exact ONE.out
    rw [← hB] at R1' B2' ⊢
    generalize (w1.alloc (.cells (U8 (List.replicate 32 0)).toArray 24)).setCells B 0 (U8 (sumH bs)) = w2 at *
    have R1 := Lib.hid R1'.out
    have B2 := Lib.hid B2'.out
    have K2 := Lib.hid (HK.out.below B2.out)
    have HA2 := Lib.hid ((HA.out.below B2.out).up B2.out.size)
    have EQ1 := fun w => eq24 (sumH bs) (sumH_len bs) (sumH_by bs) w
    clear hB RN TH R1' B2' B1
    rw [show ∀ (a : Act) (v : Value), a.put none v = a from fun _ _ => rfl]
    refine region_bw (by kernel_rfl) (by kernel_rfl) ?_
    simp only [Act.put, List.setIfInBounds_toArray, List.set_cons_zero, List.set_cons_succ]
    go_big_quiet_step (fail)
    go_big_quiet_step (exact calls_bw (sum_any A n c bs _ HB.out ((HA2.out.below (BW.h _)).up (BW.h _).size) HN.out hc (by omega) (K2.out.below (BW.h _))))
    go_big_quiet_want
    refine quiet_load 24 (.tmp 3) rfl B rfl (U8 (sumH bs)) 24 _ R1.out Tryd.underlying24 rfl (by rw [LE24.out]; exact info24) ?_
    simp only [Act.put, List.setIfInBounds_toArray, List.set_cons_zero, List.set_cons_succ]
    go_big_quiet_on
    go_big_quiet_step (fail)
    go_big_quiet_step (fail)
    go_big_quiet_step (exact calls_bw (start_row _))
    go_big_quiet_step (fail)
    go_big_quiet_step (exact calls_bw (feed_row startH A n c bs _ startH_range HB.out ((HA2.out.below (BW.h _)).up (BW.h _).size) HN.out hc (by omega) (K2.out.below (BW.h _))))
    go_big_quiet_step (exact calls_bw (finish_row (feedH startH bs) _ (feedH_range startH_range HB.out) (K2.out.below (BW.h _))))
    rw [← SE.out]
    go_big_quiet_want
    refine quiet_load 24 (.tmp 3) rfl B rfl (U8 (sumH bs)) 24 _ R1.out Tryd.underlying24 rfl (by rw [LE24.out]; exact info24) ?_
    simp only [Act.put, List.setIfInBounds_toArray, List.set_cons_zero, List.set_cons_succ]
    go_big_quiet_on
    go_big_quiet_step (fail)
    go_big_quiet_step (fail)
    go_big_quiet_step (fail)
    go_big_quiet_step (fail)
    go_big_quiet_want
    refine quiet_val (.string (strOfNums bs)) (fun y => ?_) ?_
    · exact exec_conv rfl rfl (conv_bs (HA2.out.below y.h) HB.out HN.out)
    simp only [Act.put, List.setIfInBounds_toArray, List.set_cons_zero, List.set_cons_succ]
    go_big_quiet_on
    go_big_quiet_step (exact calls_bw (text_any (strOfNums bs) _ (by rw [strOfNums_size, HN.out]; omega) (K2.out.below (BW.h _))))
    rw [BS.out]
    go_big_quiet_step (fail)
    go_big_quiet_step (exact calls_bw (refhex_any (some ⟨B, 0, none⟩) 32 32 (sumH bs) _ (sumH_by bs) ((R1.out.bs.below (BW.h _)).up (BW.h _).size) (sumH_len bs) (by omega)))
    go_big_quiet_step (fail)
    go_big_quiet_step (fail)
    go_big_quiet_step (fail)
    go_big_quiet_step (exact calls_bw (lives_any _ (K2.out.below (BW.h _))))
    go_big_quiet_step (fail)
    go_big_quiet_step (fail)
    refine wpQuiet_nil ?_
    intro w9 hw9
    obtain ⟨x, rfl⟩ := hw9
    have BX := Lib.hid (B2.out.trans (x.h.mono B2.out.size))
    clear EQ1
    go_wp2_with fail
    go_ret
    exact ⟨rfl, BX.out⟩
end Go.Proofs.YtldonfgdomeacaaDoor
