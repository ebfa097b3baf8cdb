/- The law HashTails. -/
import Derived.Test.YtldonfgdomeacaaDoorRa
import Derived.OpenShut
namespace Go.Proofs.YtldonfgdomeacaaDoor
open Go.RowKit

/-- The copy, its tail changed from the held bytes on. -/
structure TX (w : World) (B : Nat) (s : HS) (wr : World) : Prop where
  r1 : Row wr w.heap.size 32 (hsL s)
  r2 : ∃ tl, Bytes tl ∧ tl.take (heldN s.n) = s.tail.take (heldN s.n) ∧ Row wr B 32 (hsL ⟨s.st, s.n, tl⟩)
  bw : Below w.heap.size w wr
  lo : w.heap.size < B
def TXR (w : World) (B : Nat) (s : HS) (v : Value) (wr : World) : Prop := ∃ k : Nat, heldN s.n ≤ k ∧ k ≤ 64 ∧ v = .int .i64 k ∧ TX w B s wr
theorem canon_of_take {s : HS} {tl : List Int} (h : tl.take (heldN s.n) = s.tail.take (heldN s.n)) : canonH ⟨s.st, s.n, tl⟩ = canonH s := by
  unfold canonH
  dsimp only
  rw [h]
theorem xor_range (a b : Int) : 0 ≤ bits .xor .u8 a b ∧ bits .xor .u8 a b < 256 := by
  have := bounds_u8 (wf_bits .xor .u8 a b)
  omega
set_option maxRecDepth 100000 in
set_option maxHeartbeats 400000 in
theorem tails_any (w : World) (s : HS) (hs : HSR s) (A : Option Addr) (n c : Nat) (bs : List Int) (hb : By bs) (hn : bs.length = n) (hc : n ≤ c) (hA : Bs w w.heap.size A bs) (z : Int) (z0 : 0 ≤ z) (z1 : z < 256) (hK : KC w) :
    Calls Tryd.prog 7 #[hsV s, .slice A n c, .int .u8 z] w fun e w' => e = .returned (.bool true) ∧ Below w.heap.size w w' := by
  have SO := Lib.hid hs; have HB := Lib.hid hb; have HN := Lib.hid hn; have HA := Lib.hid hA; have HK := Lib.hid hK
  have s0 := hs.2.1.1
  have s1 := hs.2.1.2
  have hl := heldN_lt s.n
  clear hs hb hn hA hK
  unfold hsV
  have R0 := Lib.hid (Row.new w 32 (hsL s))
  have B0 := Lib.hid (show Below w.heap.size w (w.alloc (.cells (hsL s).toArray 32)) from (Below.refl _ _).alloc (Nat.le_refl _) _)
  by_cases h1 : 4000 < n
  · have d1 : decide (4000 < (n : Int)) = true := by simp; omega
    go_enter Tryd.func7, Tryd.ntmps7
    go_wp2_with fail
    refine (lives_any _ (HK.out.below B0.out)).mono ?_
    rintro e w1 ⟨rfl, hb1⟩
    have B1 := Lib.hid (B0.out.trans (hb1.mono B0.out.size))
    clear hb1
    go_wp2_with fail
    go_ret
    exact ⟨rfl, B1.out⟩
  · have d1 : decide (4000 < (n : Int)) = false := by simp; omega
    have LEN := Lib.hid (hsL_len SO.out.2.2.1)
    have ONE := Lib.hid (hsL_one s)
    go_enter Tryd.func7, Tryd.ntmps7
    go_upto_region 3 with fail
    go_cut [7] (fun v wx => v = .pointer (some ⟨w.heap.size + 1, 0, none⟩) ∧ TX w (w.heap.size + 1) s wx)
    case first =>
      have R1 := Lib.hid (show Row ((w.alloc (.cells (hsL s).toArray 32)).alloc (.cells (hsL ZS).toArray 32)) (w.heap.size + 1) 32 (hsL ZS) by
        have h := Row.new (w.alloc (.cells (hsL s).toArray 32)) 32 (hsL ZS)
        rwa [World.size_alloc] at h)
      go_wp2_with (first
        | (with_reducible refine wpList_value rfl _ _ (exec_alloc rfl zero32) ?_)
        | (with_reducible refine wpList_load_mid rfl 32 (.tmp 3) rfl w.heap.size 0 rfl (hsL s) _ R0.out.range Tryd.underlying32 ?ld ?li ?_)
        | (with_reducible refine wpList_store_mid rfl 32 (.tmp 7) (.tmp 14) rfl _ _ _ rfl rfl ?ht ?hi ?h1 ?_))
      case ld => rfl
      case li => rw [LEN.out]; exact info32
      case ht => rw [show (hsL s).toArray.size = 73 from LEN.out]; simp only [World.size_alloc]; exact R1.out.there
      case hi => rw [show (hsL s).toArray.size = 73 from LEN.out]; exact info32
      case h1 => exact ONE.out
      go_meet
      rw [World.size_alloc]
      refine ⟨rfl, Row.setCellsOther (by omega) _ _ _ (R0.out.alloc _), ⟨s.tail, SO.out.2.2, rfl, R1.out.setAll _ (by rw [LEN.out]; rfl)⟩, below_setCells (by omega) _ _ _ (B0.out.alloc (by simp) _), by omega⟩
    case rest =>
      obtain ⟨rfl, T0⟩ := hcut
      obtain ⟨w1, rfl⟩ : ∃ w1 : World, w1 = wc := ⟨_, rfl⟩
      have hn8 := T0.r1.n_at
      have TT := Lib.hid T0
      clear T0 R0 B0
      go_upto_region 4 with fail
      go_cut [8] (fun v wx => SameW (.int .i64 (heldN s.n)) w1 v wx)
      case first =>
        go_wp2_with fail
        go_meet
        exact ⟨by rw [heldN_cast], rfl⟩
      case rest =>
        clear hn8
        obtain ⟨rfl, rfl⟩ := hcut
        go_wp2_with fail
        go_loopw [8] (fun v wr => TXR w (w.heap.size + 1) s v wr) (fun v _ => 64 - (intOf v).toNat)
        case atStart => exact ⟨_, Nat.le_refl _, by omega, rfl, TT.out⟩
        case round =>
          clear TT
          obtain ⟨k, hk1, hk2, rfl, hP⟩ := hrel
          have HP := Lib.hid hP
          obtain ⟨tl, ht1, ht2, ht3⟩ := hP.r2
          have T1 := Lib.hid ht1; have T2 := Lib.hid ht2; have T3 := Lib.hid ht3
          by_cases hlt : k < 64
          · have hd : decide ((k : Int) < 64) = true := by simp; omega
            have k0 : (0 : Int) ≤ (k : Int) := by omega
            have k1 : (k : Int) < 64 := by omega
            have hcl := ht3.tail_cell k (by rw [ht1.1]; exact hlt)
            have hfz := ht3.frozen (9 + k)
            dsimp only at hcl
            generalize tl.getD k 0 = y at *
            clear hP ht1 ht2 ht3
            go_wp2_with fail
            have KEY := Lib.hid (show TX w (w.heap.size + 1) s (wr.setCell ⟨w.heap.size + 1, 9 + k, none⟩ (.int .u8 (bits .xor .u8 y z))) from by
              refine ⟨HP.out.r1.setOther (by omega) _, ⟨tl.set k (bits .xor .u8 y z), set_bytes T1.out (xor_range _ _), ?_, ?_⟩, HP.out.bw.setCell (by simp) _, HP.out.lo⟩
              · rw [List.take_set_of_le hk1]; exact T2.out
              · have h3 := T3.out.set (9 + k) (.int .u8 (bits .xor .u8 y z))
                rwa [hsL_set] at h3)
            go_roundw
            case rel => exact ⟨k + 1, by omega, by omega, by go_num, KEY.out⟩
            case measure => simp [intOf]; omega
          · obtain rfl : k = 64 := by omega
            have BW1 := Lib.hid HP.out.bw
            have R1 := Lib.hid HP.out.r1
            have TR := Lib.hid (show HSR ⟨s.st, s.n, tl⟩ from ⟨SO.out.1, SO.out.2.1, ht1⟩)
            have CE := Lib.hid (canon_of_take ht2)
            have XR := Lib.hid (feedH_range SO.out HB.out)
            have XC := Lib.hid (show canonH (feedH s bs) = feedH s bs from feed_clean SO.out.2.2.1 bs)
            have FE := Lib.hid (feed_canon CE.out bs)
            have NE := Lib.hid (fin_canon CE.out)
            have K1 := Lib.hid (HK.out.below HP.out.bw)
            have HA1 := Lib.hid ((HA.out.below HP.out.bw).up HP.out.bw.size)
            have RG := Lib.hid HP.out.r1.range
            have LO := Lib.hid (show w.heap.size + 1 < wr.heap.size from T3.out.lt)
            clear hP HP ht1 ht2 ht3 T1 T2 HA HK hk1 hk2
            have XLEN := Lib.hid (hsL_len XR.out.2.2.1)
            have TLEN := Lib.hid (hsL_len TR.out.2.2.1)
            have XONE := Lib.hid (hsL_one (feedH s bs))
            go_upto_region 8 with fail
            go_cut [9] (fun v wx => ∃ B, v = .pointer (some ⟨B, 0, none⟩) ∧ Row wx B 32 (hsL (feedH s bs)) ∧ Row wx w.heap.size 32 (hsL s) ∧ Row wx (w.heap.size + 1) 32 (hsL ⟨s.st, s.n, tl⟩) ∧ Below wr.heap.size wr wx)
            case first =>
              go_wp2_with (with_reducible refine wpList_load_mid rfl 32 (.tmp 3) rfl w.heap.size 0 rfl (hsL s) _ RG.out Tryd.underlying32 ?ld2 ?li2 ?_)
              case ld2 => rfl
              case li2 => rw [LEN.out]; exact info32
              refine (feed_row s A n c bs wr SO.out HB.out HA1.out HN.out hc (by omega) K1.out).mono ?_
              rintro e w5 ⟨rfl, hb5⟩
              have R5 := Lib.hid (Row.new w5 32 (hsL ZS))
              have TH := Lib.hid R5.out.there
              have A1 := Lib.hid (R1.out.below hb5)
              have A3 := Lib.hid (T3.out.below hb5)
              have BB := Lib.hid hb5
              clear hb5
              go_wp2_with (first
                | (with_reducible refine wpList_value rfl _ _ (exec_alloc rfl zero32) ?_)
                | (with_reducible refine wpList_store_mid rfl 32 (.tmp 9) (.tmp 34) rfl w5.heap.size 0 _ rfl rfl ?ht2 ?hi2 ?h12 ?_))
              case ht2 => rw [show (hsL (feedH s bs)).toArray.size = 73 from XLEN.out]; exact TH.out
              case hi2 => rw [show (hsL (feedH s bs)).toArray.size = 73 from XLEN.out]; exact info32
              case h12 => exact XONE.out
              go_meet
              exact ⟨w5.heap.size, rfl, R5.out.setAll _ (by rw [XLEN.out]; rfl), Row.setCellsOther (by have := A1.out.lt; omega) _ _ _ (A1.out.alloc _), Row.setCellsOther (by have := A3.out.lt; omega) _ _ _ (A3.out.alloc _), below_setCells BB.out.size _ _ _ (BB.out.alloc BB.out.size _)⟩
            case rest =>
              obtain ⟨B, rfl, q1, q2, q3, q4⟩ := hcut
              obtain ⟨w6, rfl⟩ : ∃ w6 : World, w6 = wc := ⟨_, rfl⟩
              have Q1 := Lib.hid q1; have Q2 := Lib.hid q2; have Q3 := Lib.hid q3
              have BW6 := Lib.hid (BW1.out.trans (q4.mono BW1.out.size))
              have K6 := Lib.hid (K1.out.below q4)
              have HA6 := Lib.hid ((HA1.out.below q4).up q4.size)
              clear q1 q2 q3 q4 K1 HA1 BW1 R1 T3 RG
              have EQ1 := fun w => eq32 (feedH s bs) XR.out w
              have EQ2 := fun w => eq24 (finH s) (finH_len s) (finH_by s) w
              go_wp2_with fail
              refine region_bw (by kernel_rfl) (by kernel_rfl) ?_
              go_big_quiet_want
              refine quiet_load 32 (.tmp 7) rfl (w.heap.size + 1) rfl (hsL ⟨s.st, s.n, tl⟩) 32 _ Q3.out Tryd.underlying32 rfl (by rw [TLEN.out]; exact info32) ?_
              simp only [Act.put, List.setIfInBounds_toArray, List.set_cons_zero, List.set_cons_succ]
              go_big_quiet_on
              go_big_quiet_step (fail)
              go_big_quiet_step (exact calls_bw (feed_row ⟨s.st, s.n, tl⟩ A n c bs _ TR.out HB.out ((HA6.out.below (BW.h _)).up (BW.h _).size) HN.out hc (by omega) (K6.out.below (BW.h _))))
              rw [FE.out]
              go_big_quiet_want
              refine quiet_load 32 (.tmp 9) rfl B rfl (hsL (feedH s bs)) 32 _ Q1.out Tryd.underlying32 rfl (by rw [XLEN.out]; exact info32) ?_
              simp only [Act.put, List.setIfInBounds_toArray, List.set_cons_zero, List.set_cons_succ]
              go_big_quiet_on
              go_big_quiet_step (fail)
              go_big_quiet_step (fail)
              go_big_quiet_want
              refine quiet_load 32 (.tmp 7) rfl (w.heap.size + 1) rfl (hsL ⟨s.st, s.n, tl⟩) 32 _ Q3.out Tryd.underlying32 rfl (by rw [TLEN.out]; exact info32) ?_
              simp only [Act.put, List.setIfInBounds_toArray, List.set_cons_zero, List.set_cons_succ]
              go_big_quiet_on
              go_big_quiet_step (exact calls_bw (finish_row ⟨s.st, s.n, tl⟩ _ TR.out (K6.out.below (BW.h _))))
              rw [NE.out]
              go_big_quiet_want
              refine quiet_load 32 (.tmp 3) rfl w.heap.size rfl (hsL s) 32 _ Q2.out Tryd.underlying32 rfl (by rw [LEN.out]; exact info32) ?_
              simp only [Act.put, List.setIfInBounds_toArray, List.set_cons_zero, List.set_cons_succ]
              go_big_quiet_on
              go_big_quiet_step (exact calls_bw (finish_row s _ SO.out (K6.out.below (BW.h _))))
              go_big_quiet_step (fail)
              go_big_quiet_step (fail)
              go_big_quiet_step (fail)
              go_big_quiet_want
              refine quiet_load 32 (.tmp 9) rfl B rfl (hsL (feedH s bs)) 32 _ Q1.out Tryd.underlying32 rfl (by rw [XLEN.out]; exact info32) ?_
              simp only [Act.put, List.setIfInBounds_toArray, List.set_cons_zero, List.set_cons_succ]
              go_big_quiet_on
              go_big_quiet_want
              refine quiet_load 32 (.tmp 9) rfl B rfl (hsL (feedH s bs)) 32 _ Q1.out Tryd.underlying32 rfl (by rw [XLEN.out]; exact info32) ?_
              simp only [Act.put, List.setIfInBounds_toArray, List.set_cons_zero, List.set_cons_succ]
              go_big_quiet_on
              go_big_quiet_step (exact calls_bw (canon_any (feedH s bs) _ XR.out))
              rw [XC.out]
              go_big_quiet_step (fail)
              go_big_quiet_step (fail)
              go_big_quiet_step (fail)
              go_big_quiet_step (exact calls_bw (lives_any _ (K6.out.below (BW.h _))))
              go_big_quiet_step (fail)
              go_big_quiet_step (fail)
              refine wpQuiet_nil ?_
              intro w9 hw9
              obtain ⟨x, rfl⟩ := hw9
              have BX := Lib.hid (BW6.out.trans (x.h.mono BW6.out.size))
              clear EQ1 EQ2
              go_wp2_with fail
              go_ret
              exact ⟨rfl, BX.out⟩
end Go.Proofs.YtldonfgdomeacaaDoor
