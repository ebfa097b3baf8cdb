/- The reference's Start and Feed. The reference's Finish and Sum. -/
import Derived.Test.YtfhbpgickkibmaaGreatDoorGf
import Derived.Deep.LoopGhost
namespace Go.Proofs.YtfhbpgickkibmaaGreatDoor
open Go.RowKit

set_option maxRecDepth 100000 in
theorem refstart_any (w : World) : Calls Tryz.prog 119 #[] w fun e w' => e = .returned (.agg (hsL startH).toArray) ∧ Below w.heap.size w w' := by
  go_enter Tryz.func119, Tryz.ntmps119
  have TH := Lib.hid (Row.new w 154 (hsL ZS)).there
  go_wp2_with (first
    | (with_reducible refine wpList_value rfl _ _ (exec_alloc rfl zero32) ?_)
    | (with_reducible refine wpList_value rfl _ _ (exec_build (vals := #[(0, .int .u32 1779033703), (1, .int .u32 3144134277), (2, .int .u32 1013904242), (3, .int .u32 2773480762), (4, .int .u32 1359893119), (5, .int .u32 2600822924), (6, .int .u32 528734635), (7, .int .u32 1541459225)]) rfl ?hp (build28 _)) ?_)
    | (with_reducible refine wpList_value rfl _ _ (exec_build (vals := #[(0, .agg (U32 (stL H0)).toArray)]) rfl ?hp2 (build32s _)) ?_)
    | (with_reducible refine wpList_store_mid rfl 154 _ _ rfl w.heap.size 0 _ rfl rfl ?ht ?hi ?h1 ?_))
  case hp => simp only [List.map_toArray, List.map_cons, List.map_nil]; rfl
  case ht => exact TH.out
  case hi => exact info32
  case h1 => exact hsL_one _
  have KEY := (Row.new w 154 (hsL ZS)).setAll (hsL startH) rfl
  exact bodyPost_ret (results_cell rfl _ _ _ w.heap.size (hsL startH) _ rfl KEY.range Tryz.underlying154 rfl info32) rfl ⟨rfl, below_setCells (Nat.le_refl _) _ _ _ ((Below.refl _ _).alloc (Nat.le_refl _) _)⟩
theorem refblock_row (s : St) (bs : List Int) (w : World) (hb : Bytes bs) (hs : StR s) : Calls Tryz.prog 148 #[.agg (U32 (stL s)).toArray, .agg (U8 bs).toArray] w fun e w' => e = .returned (.agg (U32 (stL (blockS s bs))).toArray) ∧ Below w.heap.size w w' := refblock_any s bs w hb hs
/-- The state in the function's own memory. -/
structure FX (w : World) (s : HS) (wx : World) : Prop where
  r2 : Row wx w.heap.size 154 (hsL s)
  r4 : Row wx (w.heap.size + 1) 154 (hsL ZS)
  bw : Below w.heap.size w wx
theorem FX.drew {w wx : World} {s : HS} (h : FX w s wx) : FX w s wx.drew := ⟨h.r2, h.r4, h.bw.drew⟩
def FXR (w : World) (s : HS) (bs : List Int) (m : Nat) (v : Value) (wx : World) : Prop := ∃ k : Nat, k ≤ m ∧ v = .int .i64 k ∧ FX w (atK s bs k) wx
theorem FX.setTail {w wx : World} {s : HS} (H : FX w s wx) (k : Nat) (x : Int) : FX w ⟨s.st, s.n, s.tail.set k x⟩ (wx.setCell ⟨w.heap.size, 9 + k, none⟩ (.int .u8 x)) :=
  ⟨by have h := H.r2.set (9 + k) (.int .u8 x); rwa [hsL_set] at h, H.r4.setOther (by omega) _, H.bw.setCell (by simp) _⟩
theorem FX.setN {w wx : World} {s : HS} (H : FX w s wx) (n : Int) : FX w ⟨s.st, n, s.tail⟩ (wx.setCell ⟨w.heap.size, 8, none⟩ (.int .u64 n)) :=
  ⟨by have h := H.r2.set 8 (.int .u64 n); exact h, H.r4.setOther (by omega) _, H.bw.setCell (by simp) _⟩
theorem atK_succ (s : HS) (bs : List Int) {k : Nat} (hk : k < bs.length) : atK s bs (k + 1) = stepH (atK s bs k) (bs.getD k 0) := by
  unfold atK feedH
  rw [take_snocI bs hk, List.foldl_append]
  rfl
set_option maxRecDepth 100000 in
set_option maxHeartbeats 1000000 in
theorem reffeed_any (s : HS) (A : Option Addr) (m c : Nat) (bs : List Int) (w : World) (hs : HSR s) (hb : By bs) (hA : Bs w w.heap.size A bs) (hm : bs.length = m) (hM : m ≤ 16000000) :
    Calls Tryz.prog 118 #[.agg (hsL s).toArray, .slice A m c] w fun e w' => e = .returned (.agg (hsL (feedH s bs)).toArray) ∧ Below w.heap.size w w' := by
  have SO := Lib.hid hs; have HB := Lib.hid hb; have HA := Lib.hid hA; have HM := Lib.hid hm
  clear hs hb hA hm
  have LEN := Lib.hid (hsL_len SO.out.2.2.1)
  have CR := Lib.hid (canonH_range SO.out)
  have CLEN := Lib.hid (hsL_len CR.out.2.2.1)
  have CONE := Lib.hid (hsL_one (canonH s))
  go_enter Tryz.func118, Tryz.ntmps118
  go_upto_region 0 with fail
  go_cut [2, 4] (fun v2 v4 wx => F0 w s v2 v4 wx)
  case first =>
    go_wp2_with (with_reducible refine wpList_value rfl _ _ (exec_alloc rfl zero32) ?_)
    go_meet
    refine ⟨rfl, by rw [World.size_alloc], ?_, ?_, by simp, ?_⟩
    · exact (Row.new w 154 (hsL s)).alloc _
    · have h := Row.new (w.alloc (.cells (hsL s).toArray 154)) 154 (hsL ZS)
      rw [World.size_alloc] at h
      exact h
    · exact ((Below.refl _ _).alloc (Nat.le_refl _) _).alloc (by simp) _
  case rest =>
    obtain ⟨rfl, rfl, r2, r4, sz, bw⟩ := hcut
    obtain ⟨w1, rfl⟩ : ∃ w1 : World, w1 = wc := ⟨_, rfl⟩
    have F1 := Lib.hid (show FX w s w1 from ⟨r2, r4, bw⟩)
    have RG := Lib.hid r2.range
    clear r2 r4 sz bw
    go_upto_region 1 with fail
    go_cut [7] (fun _ wx => FX w (canonH s) wx)
    case first =>
      go_wp2_with (with_reducible refine wpList_load_mid rfl 154 (.tmp 2) rfl w.heap.size 0 rfl (hsL s) _ RG.out Tryz.underlying154 ?ld ?li ?_)
      case ld => rfl
      case li => rw [LEN.out]; exact info32
      refine (canon_any s w1 SO.out).mono ?_
      rintro e w5 ⟨rfl, hb5⟩
      have A2 := Lib.hid (F1.out.r2.below hb5)
      have A4 := Lib.hid (F1.out.r4.below hb5)
      have AB := Lib.hid (F1.out.bw.trans (hb5.mono F1.out.bw.size))
      have TH := Lib.hid (show w5.there w.heap.size 0 73 by have h := A2.out.there; rwa [LEN.out] at h)
      clear hb5
      go_wp2_with (with_reducible refine wpList_store_mid rfl 154 (.tmp 2) (.tmp 7) rfl w.heap.size 0 _ rfl rfl ?ht ?hi ?h1 ?_)
      case ht => rw [show (hsL (canonH s)).toArray.size = 73 from CLEN.out]; exact TH.out
      case hi => rw [show (hsL (canonH s)).toArray.size = 73 from CLEN.out]; exact info32
      case h1 => exact CONE.out
      go_meet
      exact ⟨A2.out.setAll _ (by rw [LEN.out, CLEN.out]), Row.setCellsOther (by omega) _ _ _ A4.out, below_setCells (Nat.le_refl _) _ _ _ AB.out⟩
    case rest =>
      obtain ⟨w2, rfl⟩ : ∃ w2 : World, w2 = wc := ⟨_, rfl⟩
      have F2 := Lib.hid hcut
      clear hcut F1 RG
      go_wp2_with fail
      go_loopw [5] (fun v wr => FXR w s bs m v wr) (fun v _ => m - (intOf v).toNat)
      case atStart => exact ⟨0, Nat.zero_le _, rfl, F2.out⟩
      case round =>
        clear F2
        obtain ⟨k, hk, rfl, hP⟩ := hrel
        have HP := Lib.hid hP
        by_cases hlt : k < m
        · obtain ⟨ad, rfl, hab, hac⟩ := HA.out (by rw [HM.out]; omega)
          have hx1 : bs[k]? = some (bs.getD k 0) := getD_some (by rw [HM.out]; exact hlt)
          have XR := Lib.hid (HB.out _ (List.mem_of_getElem? hx1))
          have hcb : wr.cell? (ad.add k) = some (.int .u8 (bs.getD k 0)) := (hP.bw.cell (by rw [add_block]; exact hab)).trans (hac k _ hx1)
          have tr := atK_range SO.out HB.out k
          have TR := Lib.hid tr
          have n0 := tr.2.1.1
          have n1 := tr.2.1.2
          have tl := tr.2.2.1
          have SU := Lib.hid (atK_succ s bs (k := k) (by rw [HM.out]; exact hlt))
          have hd : decide ((k : Int) < (m : Int)) = true := by simp; omega
          have k0 : (0 : Int) ≤ (k : Int) := by omega
          have k1 : (k : Int) < (m : Int) := by omega
          have HPF := Lib.hid HP.out
          clear hab hac hx1 tr
          generalize bs.getD k 0 = x at *
          generalize atK s bs k = t at *
          have hh := (heldN_cast (n := t.n)).symm
          have hl := heldN_lt t.n
          have hc8 := hP.r2.n_at
          have hct := hP.r2.tail_cell (heldN t.n) (by rw [tl]; exact hl)
          have hf := hP.r2.frozen (9 + heldN t.n)
          have KT := Lib.hid (hP.drew.setTail (heldN t.n) x)
          have ST := Lib.hid (show stepH t x = if (t.n + 1) % 18446744073709551616 % 64 = 0 then ⟨blockS t.st (t.tail.set (heldN t.n) x), (t.n + 1) % 18446744073709551616, Z64⟩ else ⟨t.st, (t.n + 1) % 18446744073709551616, t.tail.set (heldN t.n) x⟩ from rfl)
          have TB := Lib.hid (set_bytes (i := heldN t.n) TR.out.2.2 XR.out)
          generalize heldN t.n = h at *
          generalize t.tail.getD h 0 = y at *
          have h0 : (0 : Int) ≤ (h : Int) := by omega
          have h1 : (h : Int) < 64 := by omega
          have q0 : 0 ≤ (t.n + 1) % 18446744073709551616 := by omega
          have q1 : (t.n + 1) % 18446744073709551616 < 18446744073709551616 := by omega
          have tm : t.n.tmod 64 = (h : Int) := by rw [Int.tmod_eq_emod_of_nonneg n0]; exact hh
          have wv : IntKind.i64.wrap (h : Int) = (h : Int) := IntWalk.i64_in _ (by omega)
          clear hP hh
          go_upto_region 5 with fail
          go_cut [23] (fun _ wx => FX w ⟨t.st, t.n, t.tail.set h x⟩ wx)
          case first =>
            go_still_tail 10, (by kernel_rfl)
            go_wp2_with fail
            go_meet
            exact KT.out
          case rest =>
            clear hcb hc8 hct hf tm wv h0 h1 KT
            obtain ⟨w3, rfl⟩ : ∃ w3 : World, w3 = wc := ⟨_, rfl⟩
            have hc8 := hcut.r2.n_at
            have hf8 := hcut.r2.frozen 8
            have KN := Lib.hid (hcut.setN ((t.n + 1) % 18446744073709551616))
            dsimp only at hc8
            clear hcut HP HPF
            go_upto_region 6 with fail
            go_cut [27] (fun _ wx => FX w ⟨t.st, (t.n + 1) % 18446744073709551616, t.tail.set h x⟩ wx)
            case first =>
              go_wp2_with fail
              go_meet
              exact KN.out
            case rest =>
              clear hc8 hf8 KN
              obtain ⟨w4, rfl⟩ : ∃ w4 : World, w4 = wc := ⟨_, rfl⟩
              have hc8 := hcut.r2.n_at
              have F4 := Lib.hid hcut
              dsimp only at hc8
              clear hcut
              by_cases hz : (t.n + 1) % 18446744073709551616 % 64 = 0
              · have NX := Lib.hid (show atK s bs (k + 1) = ⟨blockS t.st (t.tail.set h x), (t.n + 1) % 18446744073709551616, Z64⟩ by rw [SU.out, ST.out, if_pos hz])
                have BR := Lib.hid (blockS_range t.st (t.tail.set h x))
                have S1 := Lib.hid TR.out.1
                have HH0 := Lib.hid (show heldN ((t.n + 1) % 18446744073709551616) = 0 by unfold heldN; omega)
                generalize (t.n + 1) % 18446744073709551616 = n' at *
                generalize t.tail.set h x = T at *
                generalize t.st = S at *
                have hz2 : (n' % 64 == 0) = true := by simpa using hz
                have R0 := Lib.hid F4.out.r2.st_at
                have R9 := Lib.hid F4.out.r2.tail_at
                dsimp only at R0 R9
                go_wp2_with (first
                  | (with_reducible refine wpList_load_mid rfl 150 (.tmp 32) rfl w.heap.size 0 rfl (U32 (stL S)) _ R0.out Tryz.underlying150 ?ld ?li ?_)
                  | (with_reducible refine wpList_load_mid rfl 152 (.tmp 34) rfl w.heap.size 9 rfl (U8 T) _ R9.out Tryz.underlying152 ?ld2 ?li2 ?_))
                case ld => rfl
                case li => first | exact info28b | exact info28
                case ld2 => rfl
                case li2 => rw [show (U8 T).length = 64 by simp [U8, TB.out.1]]; first | exact info30b | exact info30
                refine (refblock_row S T w4 TB.out S1.out).mono ?_
                rintro e w5 ⟨rfl, hb5⟩
                have F5 := Lib.hid (show FX w ⟨S, n', T⟩ w5 from ⟨F4.out.r2.below hb5, F4.out.r4.below hb5, F4.out.bw.trans (hb5.mono F4.out.bw.size)⟩)
                have TH := Lib.hid (F5.out.r2.there_at (o := 0) (n := 8) (by rw [hsL_len TB.out.1]; omega))
                have F6 := Lib.hid (show FX w ⟨blockS S T, n', T⟩ (w5.setCells w.heap.size 0 (U32 (stL (blockS S T)))) from ⟨F5.out.r2.set_st (blockS S T), Row.setCellsOther (by omega) _ _ _ F5.out.r4, below_setCells (Nat.le_refl _) _ _ _ F5.out.bw⟩)
                clear hb5 hc8
                go_upto_region 9 with (with_reducible refine wpList_store_mid rfl 150 (.tmp 37) (.tmp 36) rfl w.heap.size 0 _ rfl rfl ?ht ?hi ?h1 ?_)
                case ht => exact TH.out
                case hi => first | exact info28 | exact info28b
                case h1 => exact U32_one _
                generalize w5.setCells w.heap.size 0 (U32 (stL (blockS S T))) = w6 at *
                have RG6 := Lib.hid F6.out.r2.range
                have BRR := Lib.hid (show HSR ⟨blockS S T, n', T⟩ from ⟨BR.out, ⟨q0, q1⟩, TB.out⟩)
                have L6 := Lib.hid (hsL_len BRR.out.2.2.1)
                have CE := Lib.hid (show canonH ⟨blockS S T, n', T⟩ = ⟨blockS S T, n', Z64⟩ by unfold canonH; dsimp only; rw [HH0.out]; rfl)
                go_wp2_with (with_reducible refine wpList_load_mid rfl 154 (.tmp 2) rfl w.heap.size 0 rfl (hsL ⟨blockS S T, n', T⟩) _ RG6.out Tryz.underlying154 ?ld3 ?li3 ?_)
                case ld3 => rfl
                case li3 => rw [L6.out]; exact info32
                refine (canon_any ⟨blockS S T, n', T⟩ w6 BRR.out).mono ?_
                rintro e w7 ⟨rfl, hb7⟩
                rw [CE.out]
                have F7 := Lib.hid (show FX w ⟨blockS S T, n', T⟩ w7 from ⟨F6.out.r2.below hb7, F6.out.r4.below hb7, F6.out.bw.trans (hb7.mono F6.out.bw.size)⟩)
                have TH7 := Lib.hid (show w7.there w.heap.size 0 73 by have h := F7.out.r2.there; rwa [L6.out] at h)
                have KEY := Lib.hid (show FX w ⟨blockS S T, n', Z64⟩ (w7.setCells w.heap.size 0 (hsL ⟨blockS S T, n', Z64⟩)) from ⟨F7.out.r2.setAll _ (by rw [L6.out]; rfl), Row.setCellsOther (by omega) _ _ _ F7.out.r4, below_setCells (Nat.le_refl _) _ _ _ F7.out.bw⟩)
                have ZONE := Lib.hid (hsL_one ⟨blockS S T, n', Z64⟩)
                clear hb7 F5 F6 RG6 TH R0 R9 F4
                go_wp2_with (with_reducible refine wpList_store_mid rfl 154 (.tmp 2) (.tmp 39) rfl w.heap.size 0 _ rfl rfl ?ht4 ?hi4 ?h14 ?_)
                case ht4 => exact TH7.out
                case hi4 => exact info32
                case h14 => exact ZONE.out
                go_roundw
                case rel => exact ⟨k + 1, by omega, by go_num, by rw [NX.out]; exact KEY.out⟩
                case measure => simp [intOf]; omega
              · have NX := Lib.hid (show atK s bs (k + 1) = ⟨t.st, (t.n + 1) % 18446744073709551616, t.tail.set h x⟩ by rw [SU.out, ST.out, if_neg hz])
                generalize (t.n + 1) % 18446744073709551616 = n' at *
                have hz2 : (n' % 64 == 0) = false := by simpa using hz
                go_wp2_with fail
                go_roundw
                case rel => exact ⟨k + 1, by omega, by go_num, by rw [NX.out]; exact F4.out⟩
                case measure => simp [intOf]; omega
        · obtain rfl : k = m := by omega
          have AE := Lib.hid (show atK s bs k = feedH s bs by rw [← HM.out]; exact atK_all s bs)
          rw [AE.out] at hP
          have R2 := Lib.hid hP.r2.range
          have FLEN := Lib.hid (hsL_len (feedH_range SO.out HB.out).2.2.1)
          have ONE := Lib.hid (hsL_one (feedH s bs))
          have TH := Lib.hid (show wr.there (w.heap.size + 1) 0 73 from hP.r4.there)
          have KEY := Lib.hid (show Row (wr.setCells (w.heap.size + 1) 0 (hsL (feedH s bs))) (w.heap.size + 1) 154 (hsL (feedH s bs)) ∧ Below w.heap.size w (wr.setCells (w.heap.size + 1) 0 (hsL (feedH s bs))) from
            ⟨hP.r4.setAll _ (by rw [FLEN.out]; rfl), below_setCells (by omega) _ _ _ hP.bw⟩)
          clear hP HP AE
          generalize hL : hsL (feedH s bs) = L at *
          have LE := Lib.hid hL
          clear hL
          go_wp2_with (first
            | (with_reducible refine wpList_load_mid rfl 154 (.tmp 2) rfl w.heap.size 0 rfl L _ R2.out Tryz.underlying154 ?ld ?li ?_)
            | (with_reducible refine wpList_store_mid rfl 154 (.tmp 4) (.tmp 40) rfl (w.heap.size + 1) 0 _ rfl rfl ?ht ?hi ?h1 ?_))
          case ld => rfl
          case li => rw [FLEN.out]; exact info32
          case ht => rw [show L.toArray.size = 73 from FLEN.out]; exact TH.out
          case hi => rw [show L.toArray.size = 73 from FLEN.out]; exact info32
          case h1 => exact ONE.out
          exact bodyPost_ret (results_cell rfl _ _ _ (w.heap.size + 1) L _ rfl KEY.out.1.range Tryz.underlying154 rfl (by rw [FLEN.out]; exact info32)) rfl ⟨by rw [LE.out], KEY.out.2⟩
end Go.Proofs.YtfhbpgickkibmaaGreatDoor
namespace Go.Proofs.YtfhbpgickkibmaaGreatDoor
open Go.RowKit

/-- s fed with 128 and j zeros. -/
def padj (s : HS) (j : Nat) : HS := feedH s (128 :: List.replicate j 0)
theorem padj_by (j : Nat) : By (128 :: List.replicate j 0) := fun x hx => by
  rcases List.mem_cons.1 hx with rfl | hx
  · omega
  · obtain ⟨_, rfl⟩ := List.mem_replicate.1 hx; omega
theorem padj_range {s : HS} (h : HSR s) (j : Nat) : HSR (padj s j) := feedH_range h (padj_by j)
theorem padj_step {s : HS} (h : HSR s) (j : Nat) : feedH (padj s j) [0] = padj s (j + 1) := by
  unfold padj
  rw [feed_feed h.2.2.1, List.cons_append, ← List.replicate_succ']
theorem padj_n {s : HS} (h : HSR s) (j : Nat) : (padj s j).n = (s.n + (j + 1 : Nat)) % 18446744073709551616 := by
  unfold padj
  rw [feedH_n _ _ h.2.1, List.length_cons, List.length_replicate]
theorem padj_not {s : HS} (h : HSR s) {j : Nat} (hj : j < zN s.n) : ¬ (padj s j).n % 64 = 56 := by
  rw [padj_n h]
  have hc := heldN_cast (n := s.n)
  have := h.2.1
  unfold zN at hj
  have := heldN_lt s.n
  omega
theorem padj_yes {s : HS} (h : HSR s) : (padj s (zN s.n)).n % 64 = 56 := by
  rw [padj_n h]
  have hc := heldN_cast (n := s.n)
  have := h.2.1
  unfold zN
  have := heldN_lt s.n
  omega
theorem padj_fin {s : HS} (h : HSR s) : finH s = outH (feedH (padj s (zN s.n)) (lenB s.n)).st := by
  unfold finH padj
  rw [feed_feed h.2.2.1]
  rfl
theorem lenB_by (n : Int) : By (lenB n) := fun x hx => by
  obtain ⟨i, _, rfl⟩ := List.mem_map.1 hx
  unfold lenAt; omega
theorem lenB_take (n : Int) {j : Nat} (hj : j < 8) : (lenB n).take (j + 1) = (lenB n).take j ++ [lenAt n j] := by
  rw [List.take_succ_eq_append_getElem (by rw [lenB_len]; exact hj)]
  simp [lenB]
structure G1 (w : World) (B : Nat) (t : HS) (wx : World) : Prop where
  rt : Row wx B 154 (hsL t)
  r2 : Row wx (w.heap.size + 1) 122 (U8 (List.replicate 32 0))
  bw : Below w.heap.size w wx
  lo : w.heap.size + 1 < B
def G1V (w : World) (t : HS) (v : Value) (wx : World) : Prop := ∃ B, v = .pointer (some ⟨B, 0, none⟩) ∧ G1 w B t wx
def G1R (w : World) (B : Nat) (s : HS) (k : Nat) (_v : Value) (wx : World) : Prop := ∃ j, k = zN s.n - j ∧ j ≤ zN s.n ∧ G1 w B (padj s j) wx
theorem G1.below {w wx w' : World} {B : Nat} {t : HS} (h : G1 w B t wx) (hb : Below wx.heap.size wx w') : G1 w B t w' := ⟨h.rt.below hb, h.r2.below hb, h.bw.trans (hb.mono h.bw.size), h.lo⟩
theorem G1.put {w wx : World} {B : Nat} {t : HS} (h : G1 w B t wx) (t' : HS) (ht : t.tail.length = 64) (ht' : t'.tail.length = 64) : G1 w B t' (wx.setCells B 0 (hsL t')) :=
  ⟨h.rt.setAll (hsL t') (by rw [hsL_len ht, hsL_len ht']), Row.setCellsOther (by have := h.lo; omega) _ _ _ h.r2, below_setCells (by have := h.lo; omega) _ _ _ h.bw, h.lo⟩
/-- While the length is written: o owns the bytes so far, in blocks of its own. -/
structure G2 (w : World) (B : Nat) (t : HS) (b0 : Nat) (v : Value) (xs : List Int) (wx : World) : Prop where
  g : G1 w B t wx
  o : wx.ownsRow b0 5 1 v xs.length (U8 xs)
  lt : B < b0
  sz : b0 ≤ wx.heap.size
def G2R (w : World) (B : Nat) (t : HS) (b0 : Nat) (n : Int) (v v6 : Value) (wx : World) : Prop := ∃ (j : Nat) (x : Value), j ≤ 8 ∧ x = v ∧ v6 = .int .i64 (7 - (j : Int)) ∧ G2 w B t b0 x ((lenB n).take j) wx
theorem G2.base {w wx : World} {B b0 : Nat} {t : HS} {v : Value} {xs : List Int} (H : G2 w B t b0 v xs wx) (o : Obj) : b0 ≤ (wx.alloc o).heap.size := by have := H.sz; simp; omega
theorem G2.push {w wx w1 : World} {B b0 : Nat} {t : HS} {v v1 : Value} {xs : List Int} {x : Int} (H : G2 w B t b0 v xs wx) (o1 : w1.ownsRow b0 5 1 v1 (xs.length + 1) (U8 (xs ++ [x]))) (hg : (wx.alloc (.cells #[.int .u8 x] 5)).grownBy w1 v.ownBlock) : G2 w B t b0 v1 (xs ++ [x]) w1 := by
  have hs := H.sz
  have hl := H.lt
  have hlo := H.g.lo
  have hob := own_block H.o
  have key : ∀ b, b < b0 → w1.heap[b]? = wx.heap[b]? := fun b hb => by
    rw [hg.block b (by simp; omega) (fun e => by have := hob b e.symm; omega)]
    exact ((Below.refl wx.heap.size wx).alloc (Nat.le_refl _) _).block b (by omega)
  refine ⟨⟨H.g.rt.of (key _ (by omega)), H.g.r2.of (key _ (by omega)), ?_, H.g.lo⟩, by simpa using o1, H.lt, ?_⟩
  · exact (H.g.bw.alloc H.g.bw.size _).grown hg (by simp; omega) (fun k hk => by have := hob k hk; omega)
  · have := hg.size
    simp at this
    omega
structure G3 (w : World) (B C : Nat) (t : HS) (i : Nat) (wx : World) : Prop where
  g : G1 w B t wx
  r3 : Row wx C 122 (U8 (outTo t.st i))
  lt : B < C
theorem G3.store {w wx : World} {B C : Nat} {t : HS} {i : Nat} (h : G3 w B C t i wx) (hi : i < 32) : G3 w B C t (i + 1) (wx.setCell ⟨C, i, none⟩ (.int .u8 (outAt t.st i))) := by
  have hlo := h.g.lo
  have hlt := h.lt
  refine ⟨⟨h.g.rt.setOther (by omega) _, h.g.r2.setOther (by omega) _, h.g.bw.setCell (by simp; omega) _, h.g.lo⟩, ?_, h.lt⟩
  have h3 := h.r3.set i (.int .u8 (outAt t.st i))
  unfold U8 at h3 ⊢
  rwa [← List.map_set, outTo_set _ hi] at h3
def G3R (w : World) (B C : Nat) (t : HS) (v8 : Value) (wx : World) : Prop := ∃ i : Nat, i ≤ 8 ∧ v8 = .int .i64 i ∧ G3 w B C t (4 * i) wx
def G4R (w : World) (B C : Nat) (t : HS) (i : Nat) (v9 : Value) (wx : World) : Prop := ∃ j : Nat, j ≤ 4 ∧ v9 = .int .i64 j ∧ G3 w B C t (4 * i + j) wx
theorem info32b : ∃ a, Tryz.prog.info? 154 = some a ∧ a.size = 73 := by
  have h := info32
  rw [Option.map_eq_some_iff] at h
  exact h
set_option maxRecDepth 100000 in
set_option maxHeartbeats 1000000 in
theorem reffinish_any (s : HS) (w : World) (hs : HSR s) : Calls Tryz.prog 117 #[.agg (hsL s).toArray] w fun e w' => e = .returned (.agg (U8 (finH s)).toArray) ∧ Below w.heap.size w w' := by
  have SO := Lib.hid hs
  have n0 := hs.2.1.1
  have n1 := hs.2.1.2
  have LEN := Lib.hid (hsL_len hs.2.2.1)
  clear hs
  go_enter Tryz.func117, Tryz.ntmps117
  go_upto_region 0 with fail
  go_cut [1, 2] (fun v1 v2 wx => N0 w s v1 v2 wx)
  case first =>
    go_wp2_with (with_reducible refine wpList_value rfl _ _ (exec_alloc rfl zero24) ?_)
    go_meet
    refine ⟨rfl, by rw [World.size_alloc], ?_, ?_, by simp, ?_⟩
    · exact (Row.new w 154 (hsL s)).alloc _
    · have h := Row.new (w.alloc (.cells (hsL s).toArray 154)) 122 (U8 (List.replicate 32 0))
      rw [World.size_alloc] at h
      exact h
    · exact ((Below.refl _ _).alloc (Nat.le_refl _) _).alloc (by simp) _
  case rest =>
    obtain ⟨rfl, rfl, r1, r2, sz, bw⟩ := hcut
    obtain ⟨w1, rfl⟩ : ∃ w1 : World, w1 = wc := ⟨_, rfl⟩
    have hn := r1.n_at
    have R1 := Lib.hid r1; have R2 := Lib.hid r2; have BW := Lib.hid bw; have SZ := Lib.hid sz
    clear r1 r2 bw sz
    go_upto_region 1 with fail
    go_cut [3] (fun v wx => SameW (.int .u64 (8 * s.n % 18446744073709551616)) w1 v wx)
    case first =>
      go_wp2_with fail
      go_meet
      exact ⟨by first | rfl | rw [IntKind.wrap_u64], rfl⟩
    case rest =>
      clear hn
      obtain ⟨rfl, rfl⟩ := hcut
      have LE := Lib.hid (show ∀ i, lenAt s.n i = (8 * s.n % 18446744073709551616) / 2 ^ (56 - 8 * i) % 256 from fun i => rfl)
      have L0 : 0 ≤ 8 * s.n % 18446744073709551616 := by omega
      have L1 : 8 * s.n % 18446744073709551616 < 18446744073709551616 := by omega
      generalize 8 * s.n % 18446744073709551616 = L at *
      have RG := Lib.hid R1.out.range
      have PR := Lib.hid (fun j => padj_range SO.out j)
      have P0 := Lib.hid (show feedH s [128] = padj s 0 from rfl)
      go_upto_region 2 with fail
      go_cut [4] (fun v wx => G1V w (padj s 0) v wx)
      case first =>
        go_wp2_with (with_reducible refine wpList_load_mid rfl 154 (.tmp 1) rfl w.heap.size 0 rfl (hsL s) _ RG.out Tryz.underlying154 ?ld ?li ?_)
        case ld => rfl
        case li => rw [LEN.out]; exact info32
        refine (reffeed_any s (some ⟨w1.heap.size, 0, none⟩) 1 1 [128] _ SO.out (padj_by 0) (one_bs w1 128) rfl (by omega)).mono ?_
        rintro e w5 ⟨rfl, hb5⟩
        rw [P0.out]
        have BB := Lib.hid ((show Below w.heap.size w (w1.alloc (.cells #[.int .u8 128] 5)) from BW.out.alloc BW.out.size _).trans (hb5.mono (by have := BW.out.size; simp; omega)))
        have RR := Lib.hid ((R2.out.alloc (.cells #[.int .u8 128] 5)).below hb5)
        have R5 := Lib.hid (Row.new w5 154 (hsL ZS))
        have TH := Lib.hid R5.out.there
        have PL := Lib.hid (hsL_len (PR.out 0).2.2.1)
        have PO := Lib.hid (hsL_one (padj s 0))
        clear hb5
        go_wp2_with (first
          | (with_reducible refine wpList_value rfl _ _ (exec_alloc rfl zero32) ?_)
          | (with_reducible refine wpList_store_mid rfl 154 (.tmp 4) (.tmp 15) rfl w5.heap.size 0 _ rfl rfl ?ht ?hi ?h1 ?_))
        case ht => rw [show (hsL (padj s 0)).toArray.size = 73 from PL.out]; exact TH.out
        case hi => rw [show (hsL (padj s 0)).toArray.size = 73 from PL.out]; exact info32
        case h1 => exact PO.out
        go_meet
        exact ⟨w5.heap.size, rfl, R5.out.setAll _ (by rw [PL.out]; rfl), Row.setCellsOther (by have := RR.out.lt; omega) _ _ _ (RR.out.alloc _), below_setCells BB.out.size _ _ _ (BB.out.alloc BB.out.size _), RR.out.lt⟩
      case rest =>
        obtain ⟨B, rfl, hG⟩ := hcut
        obtain ⟨w2, rfl⟩ : ∃ w2 : World, w2 = wc := ⟨_, rfl⟩
        have HG := Lib.hid hG
        clear hG R1 R2 BW SZ RG P0
        go_wp2_with fail
        go_loopg [22] (zN s.n) (fun k v wx => G1R w B s k v wx)
        case atStart => exact ⟨0, rfl, Nat.zero_le _, HG.out⟩
        case round =>
          clear HG
          obtain ⟨j, hj1, hj2, hP⟩ := hrel
          have HP := Lib.hid hP
          have HJ := Lib.hid hj1
          have hn := hP.rt.n_at
          have pn := (PR.out j).2.1.1
          have PLEN := Lib.hid (hsL_len (PR.out j).2.2.1)
          clear hj1
          by_cases hlt : j < zN s.n
          · have NO := Lib.hid (padj_not SO.out hlt)
            have no1 : ¬ (padj s j).n % 64 = 56 := NO.out
            have no2 : ((padj s j).n % 64 == 56) = false := by simpa using no1
            have no3 : ((padj s j).n % 64 != 56) = true := by simpa using no1
            have RG := Lib.hid hP.rt.range
            have PS := Lib.hid (padj_step SO.out j)
            have PJ := Lib.hid (PR.out j)
            have PK := Lib.hid (PR.out (j + 1))
            clear hP
            generalize padj s j = t at *
            go_wp2_with (with_reducible refine wpList_load_mid rfl 154 (.tmp 4) rfl B 0 rfl (hsL t) _ RG.out Tryz.underlying154 ?ld ?li ?_)
            case ld => rfl
            case li => rw [PLEN.out]; exact info32
            refine (reffeed_any t (some ⟨wr.heap.size, 0, none⟩) 1 1 [0] _ PJ.out (fun x hx => by rw [List.mem_singleton] at hx; omega) (one_bs wr 0) rfl (by omega)).mono ?_
            rintro e w5 ⟨rfl, hb5⟩
            rw [PS.out]
            have G5 := Lib.hid ((show G1 w B t (wr.alloc (.cells #[.int .u8 0] 5)) from HP.out.below ((Below.refl _ _).alloc (Nat.le_refl _) _)).below hb5)
            have TH := Lib.hid (show w5.there B 0 73 by have h := G5.out.rt.there; rwa [PLEN.out] at h)
            have KL := Lib.hid (hsL_len PK.out.2.2.1)
            have KO := Lib.hid (hsL_one (padj s (j + 1)))
            have KEY := Lib.hid (G5.out.put (padj s (j + 1)) PJ.out.2.2.1 PK.out.2.2.1)
            clear hb5 hn no1 no2 no3
            generalize hu : padj s (j + 1) = u at *
            have UE := Lib.hid hu
            clear hu
            go_wp2_with (with_reducible refine wpList_store_mid rfl 154 (.tmp 4) (.tmp 22) rfl B 0 _ rfl rfl ?ht ?hi ?h1 ?_)
            case ht => rw [show (hsL u).toArray.size = 73 from KL.out]; exact TH.out
            case hi => rw [show (hsL u).toArray.size = 73 from KL.out]; exact info32
            case h1 => exact KO.out
            go_roundg (zN s.n - (j + 1))
            case measure => rw [HJ.out]; omega
            case rel => exact ⟨j + 1, rfl, by omega, by rw [UE.out]; exact KEY.out⟩
          · obtain rfl : j = zN s.n := by omega
            have YE := padj_yes SO.out
            have no2 : ((padj s (zN s.n)).n % 64 == 56) = true := by simpa using YE
            have no3 : ((padj s (zN s.n)).n % 64 != 56) = false := by simpa using YE
            have FE := Lib.hid (padj_fin SO.out)
            have TR := Lib.hid (PR.out (zN s.n))
            clear hP PR
            generalize padj s (zN s.n) = t at *
            go_wp2_with fail
            obtain ⟨b0, hb0⟩ : ∃ b0, b0 = wr.heap.size := ⟨_, rfl⟩
            have G20 := Lib.hid (show G2 w B t b0 (.slice none 0 0) [] wr from ⟨HP.out, World.ownsRow_nil _ _ _ _, by rw [hb0]; exact HP.out.rt.lt, by rw [hb0]; exact Nat.le_refl _⟩)
            clear hb0 HP hn YE no2 no3 HJ hj2 hlt
            go_loopw [5, 6] (fun v v6 wx => G2R w B t b0 s.n v v6 wx) (fun _ v _ => (intOf v + 1).toNat)
            case atStart => exact ⟨0, _, Nat.zero_le _, rfl, rfl, G20.out⟩
            case round =>
              clear G20
              obtain ⟨j, v, hj, rfl, rfl, hP⟩ := hrel
              have HP := Lib.hid hP
              clear hP
              by_cases hlt : j < 8
              · have LL := Lib.hid (show ((lenB s.n).take j).length = j by rw [List.length_take, lenB_len]; omega)
                have zl : ((lenB s.n).take j).length ≤ 8 := by rw [LL.out]; omega
                have TK := Lib.hid (lenB_take s.n hlt)
                have LV := Lib.hid (LE.out j)
                have i0 : (0 : Int) ≤ 7 - (j : Int) := by omega
                have i1 : (0 : Int) ≤ 8 * (7 - (j : Int)) := by omega
                have i2 : 8 * (7 - (j : Int)) < 64 := by omega
                have i3 : (8 * (7 - (j : Int))).toNat = 56 - 8 * j := by omega
                generalize hZ : (lenB s.n).take j = Z at *
                have ZE := Lib.hid hZ
                clear hZ
                go_wp2_with (with_reducible refine wpList_append_bytes rfl (.tmp 27) (.tmp 33) rfl b0 v Z.length Z rfl (HP.out.o.alloc _) (some ⟨wr.heap.size, 0, none⟩) 1 1 [L / 2 ^ (56 - 8 * j) % 256] rfl (one_bs _ _) (one_len _) no_nil (by omega) (HP.out.base _) ?_)
                intro v1 w1 o1 g1
                have KEY := Lib.hid (HP.out.push o1 g1)
                clear o1 g1
                go_wp2_with fail
                go_roundw
                case rel =>
                  refine ⟨j + 1, v1, by omega, rfl, by go_num, ?_⟩
                  rw [TK.out, LV.out]
                  exact KEY.out
                case measure => simp [intOf]; omega
              · obtain rfl : j = 8 := by omega
                have O8 := HP.out.o
                rw [List.take_of_length_le (by rw [lenB_len]; omega)] at O8
                obtain ⟨A3, c3, rfl, hc3, hl3, hB3⟩ := owns_slice O8
                have HB3 := Lib.hid hB3; have HL3 := Lib.hid hl3
                have HG := Lib.hid HP.out.g
                have RG := Lib.hid HP.out.g.rt.range
                rw [show (lenB s.n).length = 8 from lenB_len s.n] at *
                rw [show (7 : Int) - ((8 : Nat) : Int) = -1 from rfl]
                have LB := Lib.hid (lenB_len s.n)
                have VR := Lib.hid (feedH_range TR.out (lenB_by s.n))
                have VL := Lib.hid (hsL_len VR.out.2.2.1)
                have VO := Lib.hid (hsL_one (feedH t (lenB s.n)))
                clear O8 hB3 hl3 HP hlt hj
                go_upto_region 10 with fail
                go_cut [37] (fun _ wx => G1 w B (feedH t (lenB s.n)) wx)
                case first =>
                  go_wp2_with (with_reducible refine wpList_load_mid rfl 154 (.tmp 4) rfl B 0 rfl (hsL t) _ RG.out Tryz.underlying154 ?ld ?li ?_)
                  case ld => rfl
                  case li => rw [PLEN.out]; first | exact info32 | exact info32b
                  refine (reffeed_any t A3 8 c3 (lenB s.n) wr TR.out (lenB_by s.n) HB3.out LB.out (by omega)).mono ?_
                  rintro e w5 ⟨rfl, hb5⟩
                  have G5 := Lib.hid (HG.out.below hb5)
                  have TH := Lib.hid (show w5.there B 0 73 by have h := G5.out.rt.there; rwa [PLEN.out] at h)
                  have KEY := Lib.hid (G5.out.put (feedH t (lenB s.n)) TR.out.2.2.1 VR.out.2.2.1)
                  clear hb5
                  go_wp2_with (with_reducible refine wpList_store_mid rfl 154 (.tmp 4) (.tmp 37) rfl B 0 _ rfl rfl ?ht ?hi ?h1 ?_)
                  case ht => rw [show (hsL (feedH t (lenB s.n))).toArray.size = 73 from VL.out]; exact TH.out
                  case hi => rw [show (hsL (feedH t (lenB s.n))).toArray.size = 73 from VL.out]; exact info32
                  case h1 => exact VO.out
                  go_meet
                  exact KEY.out
                case rest =>
                  obtain ⟨w6, rfl⟩ : ∃ w6 : World, w6 = wc := ⟨_, rfl⟩
                  have H6 := Lib.hid hcut
                  clear hcut HG RG HB3 HL3 LB VL VO hc3 TR PLEN pn LE L0 L1
                  generalize feedH t (lenB s.n) = u at *
                  go_upto_region 11 with fail
                  go_cut [7] (fun v wx => ∃ C, v = .pointer (some ⟨C, 0, none⟩) ∧ G3 w B C u 0 wx)
                  case first =>
                    go_wp2_with (with_reducible refine wpList_value rfl _ _ (exec_alloc rfl zero24) ?_)
                    go_meet
                    exact ⟨w6.heap.size, rfl, H6.out.below ((Below.refl _ _).alloc (Nat.le_refl _) _), Row.new w6 122 _, H6.out.rt.lt⟩
                  case rest =>
                    obtain ⟨C, rfl, hG⟩ := hcut
                    obtain ⟨w7, rfl⟩ : ∃ w7 : World, w7 = wc := ⟨_, rfl⟩
                    have H7 := Lib.hid hG
                    clear hG H6
                    go_wp2_with fail
                    go_loopw [8, 9] (fun v8 _ wx => G3R w B C u v8 wx) (fun v _ _ => 8 - (intOf v).toNat)
                    case atStart => exact ⟨0, by omega, rfl, H7.out⟩
                    case round =>
                      clear H7
                      obtain ⟨i, hi, rfl, hP⟩ := hrel
                      have HP := Lib.hid hP
                      clear hP
                      by_cases hlt : i < 8
                      · have hd : decide ((i : Int) < 8) = true := by simp; omega
                        obtain ⟨wo, rfl⟩ : ∃ wo : World, wo = wr := ⟨_, rfl⟩
                        go_wp2_with fail
                        go_loopw [9] (fun v9 wx => G4R w B C u i v9 wx) (fun v _ => 4 - (intOf v).toNat)
                        case atStart => exact ⟨0, by omega, rfl, HP.out⟩
                        case round =>
                          clear HP
                          obtain ⟨j, hj, rfl, hP⟩ := hrel
                          by_cases hlj : j < 4
                          · have hd2 : decide ((j : Int) < 4) = true := by simp; omega
                            have hx := (hP.g.rt.st_cell (k := i) (by omega))
                            have xr := st_range VR.out.1 i
                            have OE := Lib.hid (show outAt u.st (4 * i + j) = (stL u.st).getD i 0 / 2 ^ (24 - 8 * j) % 256 by
                              unfold outAt
                              rw [show (4 * i + j) / 4 = i by omega, show (4 * i + j) % 4 = j by omega])
                            generalize (stL u.st).getD i 0 = x at *
                            have x0 := xr.1
                            have x1 := xr.2
                            obtain ⟨y, hy⟩ : ∃ y, (outTo u.st (4 * i + j))[4 * i + j]? = some y := ⟨_, getD_some (by rw [outTo_len _ (by omega)]; omega)⟩
                            have hc := (hP.r3.cell (4 * i + j)).trans (U8_get hy)
                            have hf := hP.r3.frozen (4 * i + j)
                            have HP := Lib.hid hP
                            clear hP hy xr
                            have i0 : (0 : Int) ≤ (i : Int) := by omega
                            have i1 : (i : Int) < 8 := by omega
                            have q0 : (0 : Int) ≤ 4 * (i : Int) + (j : Int) := by omega
                            have q1 : 4 * (i : Int) + (j : Int) < 32 := by omega
                            have q2 : (4 * (i : Int) + (j : Int)).toNat = 4 * i + j := by omega
                            have q3 : (0 : Int) ≤ 24 - 8 * (j : Int) := by omega
                            have q4 : 24 - 8 * (j : Int) < 32 := by omega
                            have q5 : (24 - 8 * (j : Int)).toNat = 24 - 8 * j := by omega
                            go_wp2_with fail
                            go_roundw
                            case rel =>
                              refine ⟨j + 1, by omega, by go_num, ?_⟩
                              have h := HP.out.store (by omega)
                              rw [OE.out] at h
                              exact h
                            case measure => simp [intOf]; omega
                          · obtain rfl : j = 4 := by omega
                            have HP := Lib.hid hP
                            clear hP
                            go_wp2_with fail
                            go_roundw
                            case rel => exact ⟨i + 1, by omega, by go_num, HP.out⟩
                            case measure => simp [intOf]; omega
                      · obtain rfl : i = 8 := by omega
                        have R3 := Lib.hid (show wr.rangeAt C 0 (U8 (finH s)) by
                          have h := HP.out.r3.range
                          rwa [show 4 * 8 = 32 from rfl, outTo_all, ← FE.out] at h)
                        have TH := Lib.hid HP.out.g.r2.there
                        have LE := Lib.hid (show (U8 (finH s)).length = 32 by simp [U8, finH_len])
                        have KEY := Lib.hid (show Row (wr.setCells (w.heap.size + 1) 0 (U8 (finH s))) (w.heap.size + 1) 122 (U8 (finH s)) ∧ Below w.heap.size w (wr.setCells (w.heap.size + 1) 0 (U8 (finH s))) from
                          ⟨HP.out.g.r2.setAll _ (by rw [LE.out]; rfl), below_setCells (by omega) _ _ _ HP.out.g.bw⟩)
                        have ONE := Lib.hid (U8_one (finH s))
                        clear HP FE VR
                        generalize hR : U8 (finH s) = R at *
                        have RE := Lib.hid hR
                        clear hR
                        go_wp2_with (first
                          | (with_reducible refine wpList_load_mid rfl 122 (.tmp 7) rfl C 0 rfl R _ R3.out Tryz.underlying122 ?ld ?li ?_)
                          | (with_reducible refine wpList_store_mid rfl 122 (.tmp 2) _ rfl (w.heap.size + 1) 0 _ rfl rfl ?ht ?hi ?h1 ?_))
                        case ld => rfl
                        case li => rw [LE.out]; exact info24
                        case ht => rw [show R.toArray.size = 32 from LE.out]; exact TH.out
                        case hi => rw [show R.toArray.size = 32 from LE.out]; exact info24
                        case h1 => exact ONE.out
                        exact bodyPost_ret (results_cell rfl _ _ _ (w.heap.size + 1) R _ rfl KEY.out.1.range Tryz.underlying122 rfl (by rw [LE.out]; exact info24)) rfl ⟨by rw [RE.out], KEY.out.2⟩
set_option maxRecDepth 100000 in
theorem refsum_any (A : Option Addr) (m c : Nat) (bs : List Int) (w : World) (hb : By bs) (hA : Bs w w.heap.size A bs) (hm : bs.length = m) (hM : m ≤ 16000000) :
    Calls Tryz.prog 88 #[.slice A m c] w fun e w' => e = .returned (.agg (U8 (sumH bs)).toArray) ∧ Below w.heap.size w w' := by
  have HB := Lib.hid hb; have HA := Lib.hid hA; have HM := Lib.hid hm
  clear hb hA hm
  go_enter Tryz.func88, Tryz.ntmps88
  go_upto_region 0 with fail
  go_cut [2] (fun v wx => OneRow w v wx)
  case first =>
    go_wp2_with (with_reducible refine wpList_value rfl _ _ (exec_alloc rfl zero24) ?_)
    go_meet
    exact ⟨rfl, Row.new w 122 _, (Below.refl _ _).alloc (Nat.le_refl _) _⟩
  case rest =>
    obtain ⟨rfl, R, B1⟩ := hcut
    obtain ⟨w1, rfl⟩ : ∃ w1 : World, w1 = wc := ⟨_, rfl⟩
    have R1 := Lib.hid R; have BW := Lib.hid B1
    clear R B1
    go_wp2_with fail
    refine (refstart_any _).mono ?_
    rintro e w2 ⟨rfl, hb2⟩
    have BW2 := Lib.hid (BW.out.trans (hb2.mono BW.out.size))
    have R2 := Lib.hid (R1.out.below hb2)
    clear hb2 R1 BW
    go_wp2_with fail
    refine (reffeed_any startH A m c bs w2 startH_range HB.out ((HA.out.below BW2.out).up BW2.out.size) HM.out hM).mono ?_
    rintro e w3 ⟨rfl, hb3⟩
    have BW3 := Lib.hid (BW2.out.trans (hb3.mono BW2.out.size))
    have R3 := Lib.hid (R2.out.below hb3)
    clear hb3 R2 BW2
    go_wp2_with fail
    refine (reffinish_any (feedH startH bs) w3 (feedH_range startH_range HB.out)).mono ?_
    rintro e w4 ⟨rfl, hb4⟩
    have BW4 := Lib.hid (BW3.out.trans (hb4.mono BW3.out.size))
    have R4 := Lib.hid (R3.out.below hb4)
    clear hb4 R3 BW3
    have SE := Lib.hid (show sumH bs = finH (feedH startH bs) from rfl)
    have LE := Lib.hid (show (U8 (finH (feedH startH bs))).length = 32 by simp [U8, finH_len])
    have ONE := Lib.hid (U8_one (finH (feedH startH bs)))
    have KEY := Lib.hid (R4.out.setAll (U8 (finH (feedH startH bs))) (by rw [LE.out]; rfl))
    generalize finH (feedH startH bs) = f at *
    go_wp2_with (with_reducible refine wpList_store_mid rfl 122 (.tmp 2) (.tmp 6) rfl w.heap.size 0 _ rfl rfl ?ht ?hi ?h1 ?_)
    case ht => rw [show (U8 f).toArray.size = 32 from LE.out]; exact R4.out.there
    case hi => rw [show (U8 f).toArray.size = 32 from LE.out]; first | exact info24 | exact info24b
    case h1 => exact ONE.out
    exact bodyPost_ret (results_cell rfl _ _ _ w.heap.size (U8 f) _ rfl KEY.out.range Tryz.underlying122 rfl (by rw [LE.out]; exact info24)) rfl ⟨by rw [SE.out], below_setCells (Nat.le_refl _) _ _ _ BW4.out⟩
theorem exec_conv {ρ : Operand → Value} {op : Oper} {x : Operand} {v r : Value} {w : World} (ho : op.op = .convert 31 9 x) (hx : ρ x = v) (hrun : (convert 31 9 v).run Tryz.prog w = .ok r w) : (execOp ρ op).run Tryz.prog w = .ok (.value r) w := by
  unfold execOp
  simp only [ho, hx, Sem.run_bind, hrun, Result.andThen_ok, Sem.run_pure]
end Go.Proofs.YtfhbpgickkibmaaGreatDoor
