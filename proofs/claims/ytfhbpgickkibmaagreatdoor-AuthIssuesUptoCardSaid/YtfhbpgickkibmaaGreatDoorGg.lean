/- The reference's Start and Feed. -/
import Derived.Test.YtfhbpgickkibmaaGreatDoorGf
namespace Go.Proofs.YtfhbpgickkibmaaGreatDoor
open Go.RowKit

set_option maxRecDepth 100000 in
theorem refstart_any (w : World) : Calls Tryz.prog 119 #[] w fun e w' => e = .returned (.agg (hsL startH).toArray) ∧ Below w.heap.size w w' := by
  go_enter Tryz.func119, Tryz.ntmps119
  have TH := Lib.hid (Row.new w 154 (hsL ZS)).there
  go_wp2_with (first
    | (with_reducible refine wpList_value rfl _ _ (exec_alloc rfl zero32) ?_)
    | (with_reducible refine wpList_value rfl _ _ (exec_build (vals := #[(0, .int .u32 1779033703), (1, .int .u32 3144134277), (2, .int .u32 1013904242), (3, .int .u32 2773480762), (4, .int .u32 1359893119), (5, .int .u32 2600822924), (6, .int .u32 528734635), (7, .int .u32 1541459225)]) rfl ?hp (build28 _)) ?_)
    | (with_reducible refine wpList_value rfl _ _ (exec_build (vals := #[(0, .agg (U32 (stL H0)).toArray)]) rfl ?hp2 (build32s _)) ?_)
    | (with_reducible refine wpList_store_mid rfl 154 _ _ rfl w.heap.size 0 _ rfl rfl ?ht ?hi ?h1 ?_))
  case hp => simp only [List.map_toArray, List.map_cons, List.map_nil]; rfl
  case ht => exact TH.out
  case hi => exact info32
  case h1 => exact hsL_one _
  have KEY := (Row.new w 154 (hsL ZS)).setAll (hsL startH) rfl
  exact bodyPost_ret (results_cell rfl _ _ _ w.heap.size (hsL startH) _ rfl KEY.range Tryz.underlying154 rfl info32) rfl ⟨rfl, below_setCells (Nat.le_refl _) _ _ _ ((Below.refl _ _).alloc (Nat.le_refl _) _)⟩
theorem refblock_row (s : St) (bs : List Int) (w : World) (hb : Bytes bs) (hs : StR s) : Calls Tryz.prog 148 #[.agg (U32 (stL s)).toArray, .agg (U8 bs).toArray] w fun e w' => e = .returned (.agg (U32 (stL (blockS s bs))).toArray) ∧ Below w.heap.size w w' := refblock_any s bs w hb hs
/-- The state in the function's own memory. -/
structure FX (w : World) (s : HS) (wx : World) : Prop where
  r2 : Row wx w.heap.size 154 (hsL s)
  r4 : Row wx (w.heap.size + 1) 154 (hsL ZS)
  bw : Below w.heap.size w wx
theorem FX.drew {w wx : World} {s : HS} (h : FX w s wx) : FX w s wx.drew := ⟨h.r2, h.r4, h.bw.drew⟩
def FXR (w : World) (s : HS) (bs : List Int) (m : Nat) (v : Value) (wx : World) : Prop := ∃ k : Nat, k ≤ m ∧ v = .int .i64 k ∧ FX w (atK s bs k) wx
theorem FX.setTail {w wx : World} {s : HS} (H : FX w s wx) (k : Nat) (x : Int) : FX w ⟨s.st, s.n, s.tail.set k x⟩ (wx.setCell ⟨w.heap.size, 9 + k, none⟩ (.int .u8 x)) :=
  ⟨by have h := H.r2.set (9 + k) (.int .u8 x); rwa [hsL_set] at h, H.r4.setOther (by omega) _, H.bw.setCell (by simp) _⟩
theorem FX.setN {w wx : World} {s : HS} (H : FX w s wx) (n : Int) : FX w ⟨s.st, n, s.tail⟩ (wx.setCell ⟨w.heap.size, 8, none⟩ (.int .u64 n)) :=
  ⟨by have h := H.r2.set 8 (.int .u64 n); exact h, H.r4.setOther (by omega) _, H.bw.setCell (by simp) _⟩
theorem atK_succ (s : HS) (bs : List Int) {k : Nat} (hk : k < bs.length) : atK s bs (k + 1) = stepH (atK s bs k) (bs.getD k 0) := by
  unfold atK feedH
  rw [take_snocI bs hk, List.foldl_append]
  rfl
set_option maxRecDepth 100000 in
set_option maxHeartbeats 1000000 in
theorem reffeed_any (s : HS) (A : Option Addr) (m c : Nat) (bs : List Int) (w : World) (hs : HSR s) (hb : By bs) (hA : Bs w w.heap.size A bs) (hm : bs.length = m) (hM : m ≤ 16000000) :
    Calls Tryz.prog 118 #[.agg (hsL s).toArray, .slice A m c] w fun e w' => e = .returned (.agg (hsL (feedH s bs)).toArray) ∧ Below w.heap.size w w' := by
  have SO := Lib.hid hs; have HB := Lib.hid hb; have HA := Lib.hid hA; have HM := Lib.hid hm
  clear hs hb hA hm
  have LEN := Lib.hid (hsL_len SO.out.2.2.1)
  have CR := Lib.hid (canonH_range SO.out)
  have CLEN := Lib.hid (hsL_len CR.out.2.2.1)
  have CONE := Lib.hid (hsL_one (canonH s))
  go_enter Tryz.func118, Tryz.ntmps118
  go_upto_region 0 with fail
  go_cut [2, 4] (fun v2 v4 wx => F0 w s v2 v4 wx)
  case first =>
    go_wp2_with (with_reducible refine wpList_value rfl _ _ (exec_alloc rfl zero32) ?_)
    go_meet
    refine ⟨rfl, by rw [World.size_alloc], ?_, ?_, by simp, ?_⟩
    · exact (Row.new w 154 (hsL s)).alloc _
    · have h := Row.new (w.alloc (.cells (hsL s).toArray 154)) 154 (hsL ZS)
      rw [World.size_alloc] at h
      exact h
    · exact ((Below.refl _ _).alloc (Nat.le_refl _) _).alloc (by simp) _
  case rest =>
    obtain ⟨rfl, rfl, r2, r4, sz, bw⟩ := hcut
    obtain ⟨w1, rfl⟩ : ∃ w1 : World, w1 = wc := ⟨_, rfl⟩
    have F1 := Lib.hid (show FX w s w1 from ⟨r2, r4, bw⟩)
    have RG := Lib.hid r2.range
    clear r2 r4 sz bw
    go_upto_region 1 with fail
    go_cut [7] (fun _ wx => FX w (canonH s) wx)
    case first =>
      go_wp2_with (with_reducible refine wpList_load_mid rfl 154 (.tmp 2) rfl w.heap.size 0 rfl (hsL s) _ RG.out Tryz.underlying154 ?ld ?li ?_)
      case ld => rfl
      case li => rw [LEN.out]; exact info32
      refine (canon_any s w1 SO.out).mono ?_
      rintro e w5 ⟨rfl, hb5⟩
      have A2 := Lib.hid (F1.out.r2.below hb5)
      have A4 := Lib.hid (F1.out.r4.below hb5)
      have AB := Lib.hid (F1.out.bw.trans (hb5.mono F1.out.bw.size))
      have TH := Lib.hid (show w5.there w.heap.size 0 73 by have h := A2.out.there; rwa [LEN.out] at h)
      clear hb5
      go_wp2_with (with_reducible refine wpList_store_mid rfl 154 (.tmp 2) (.tmp 7) rfl w.heap.size 0 _ rfl rfl ?ht ?hi ?h1 ?_)
      case ht => rw [show (hsL (canonH s)).toArray.size = 73 from CLEN.out]; exact TH.out
      case hi => rw [show (hsL (canonH s)).toArray.size = 73 from CLEN.out]; exact info32
      case h1 => exact CONE.out
      go_meet
      exact ⟨A2.out.setAll _ (by rw [LEN.out, CLEN.out]), Row.setCellsOther (by omega) _ _ _ A4.out, below_setCells (Nat.le_refl _) _ _ _ AB.out⟩
    case rest =>
      obtain ⟨w2, rfl⟩ : ∃ w2 : World, w2 = wc := ⟨_, rfl⟩
      have F2 := Lib.hid hcut
      clear hcut F1 RG
      go_wp2_with fail
      go_loopw [5] (fun v wr => FXR w s bs m v wr) (fun v _ => m - (intOf v).toNat)
      case atStart => exact ⟨0, Nat.zero_le _, rfl, F2.out⟩
      case round =>
        clear F2
        obtain ⟨k, hk, rfl, hP⟩ := hrel
        have HP := Lib.hid hP
        by_cases hlt : k < m
        · obtain ⟨ad, rfl, hab, hac⟩ := HA.out (by rw [HM.out]; omega)
          have hx1 : bs[k]? = some (bs.getD k 0) := getD_some (by rw [HM.out]; exact hlt)
          have XR := Lib.hid (HB.out _ (List.mem_of_getElem? hx1))
          have hcb : wr.cell? (ad.add k) = some (.int .u8 (bs.getD k 0)) := (hP.bw.cell (by rw [add_block]; exact hab)).trans (hac k _ hx1)
          have tr := atK_range SO.out HB.out k
          have TR := Lib.hid tr
          have n0 := tr.2.1.1
          have n1 := tr.2.1.2
          have tl := tr.2.2.1
          have SU := Lib.hid (atK_succ s bs (k := k) (by rw [HM.out]; exact hlt))
          have hd : decide ((k : Int) < (m : Int)) = true := by simp; omega
          have k0 : (0 : Int) ≤ (k : Int) := by omega
          have k1 : (k : Int) < (m : Int) := by omega
          have HPF := Lib.hid HP.out
          clear hab hac hx1 tr
          generalize bs.getD k 0 = x at *
          generalize atK s bs k = t at *
          have hh := (heldN_cast (n := t.n)).symm
          have hl := heldN_lt t.n
          have hc8 := hP.r2.n_at
          have hct := hP.r2.tail_cell (heldN t.n) (by rw [tl]; exact hl)
          have hf := hP.r2.frozen (9 + heldN t.n)
          have KT := Lib.hid (hP.drew.setTail (heldN t.n) x)
          have ST := Lib.hid (show stepH t x = if (t.n + 1) % 18446744073709551616 % 64 = 0 then ⟨blockS t.st (t.tail.set (heldN t.n) x), (t.n + 1) % 18446744073709551616, Z64⟩ else ⟨t.st, (t.n + 1) % 18446744073709551616, t.tail.set (heldN t.n) x⟩ from rfl)
          have TB := Lib.hid (set_bytes (i := heldN t.n) TR.out.2.2 XR.out)
          generalize heldN t.n = h at *
          generalize t.tail.getD h 0 = y at *
          have h0 : (0 : Int) ≤ (h : Int) := by omega
          have h1 : (h : Int) < 64 := by omega
          have q0 : 0 ≤ (t.n + 1) % 18446744073709551616 := by omega
          have q1 : (t.n + 1) % 18446744073709551616 < 18446744073709551616 := by omega
          have tm : t.n.tmod 64 = (h : Int) := by rw [Int.tmod_eq_emod_of_nonneg n0]; exact hh
          have wv : IntKind.i64.wrap (h : Int) = (h : Int) := IntWalk.i64_in _ (by omega)
          clear hP hh
          go_upto_region 5 with fail
          go_cut [23] (fun _ wx => FX w ⟨t.st, t.n, t.tail.set h x⟩ wx)
          case first =>
            go_still_tail 10, (by kernel_rfl)
            go_wp2_with fail
            go_meet
            exact KT.out
          case rest =>
            clear hcb hc8 hct hf tm wv h0 h1 KT
            obtain ⟨w3, rfl⟩ : ∃ w3 : World, w3 = wc := ⟨_, rfl⟩
            have hc8 := hcut.r2.n_at
            have hf8 := hcut.r2.frozen 8
            have KN := Lib.hid (hcut.setN ((t.n + 1) % 18446744073709551616))
            dsimp only at hc8
            clear hcut HP HPF
            go_upto_region 6 with fail
            go_cut [27] (fun _ wx => FX w ⟨t.st, (t.n + 1) % 18446744073709551616, t.tail.set h x⟩ wx)
            case first =>
              go_wp2_with fail
              go_meet
              exact KN.out
            case rest =>
              clear hc8 hf8 KN
              obtain ⟨w4, rfl⟩ : ∃ w4 : World, w4 = wc := ⟨_, rfl⟩
              have hc8 := hcut.r2.n_at
              have F4 := Lib.hid hcut
              dsimp only at hc8
              clear hcut
              by_cases hz : (t.n + 1) % 18446744073709551616 % 64 = 0
              · have NX := Lib.hid (show atK s bs (k + 1) = ⟨blockS t.st (t.tail.set h x), (t.n + 1) % 18446744073709551616, Z64⟩ by rw [SU.out, ST.out, if_pos hz])
                have BR := Lib.hid (blockS_range t.st (t.tail.set h x))
                have S1 := Lib.hid TR.out.1
                have HH0 := Lib.hid (show heldN ((t.n + 1) % 18446744073709551616) = 0 by unfold heldN; omega)
                generalize (t.n + 1) % 18446744073709551616 = n' at *
                generalize t.tail.set h x = T at *
                generalize t.st = S at *
                have hz2 : (n' % 64 == 0) = true := by simpa using hz
                have R0 := Lib.hid F4.out.r2.st_at
                have R9 := Lib.hid F4.out.r2.tail_at
                dsimp only at R0 R9
                go_wp2_with (first
                  | (with_reducible refine wpList_load_mid rfl 150 (.tmp 32) rfl w.heap.size 0 rfl (U32 (stL S)) _ R0.out Tryz.underlying150 ?ld ?li ?_)
                  | (with_reducible refine wpList_load_mid rfl 152 (.tmp 34) rfl w.heap.size 9 rfl (U8 T) _ R9.out Tryz.underlying152 ?ld2 ?li2 ?_))
                case ld => rfl
                case li => first | exact info28b | exact info28
                case ld2 => rfl
                case li2 => rw [show (U8 T).length = 64 by simp [U8, TB.out.1]]; first | exact info30b | exact info30
                refine (refblock_row S T w4 TB.out S1.out).mono ?_
                rintro e w5 ⟨rfl, hb5⟩
                have F5 := Lib.hid (show FX w ⟨S, n', T⟩ w5 from ⟨F4.out.r2.below hb5, F4.out.r4.below hb5, F4.out.bw.trans (hb5.mono F4.out.bw.size)⟩)
                have TH := Lib.hid (F5.out.r2.there_at (o := 0) (n := 8) (by rw [hsL_len TB.out.1]; omega))
                have F6 := Lib.hid (show FX w ⟨blockS S T, n', T⟩ (w5.setCells w.heap.size 0 (U32 (stL (blockS S T)))) from ⟨F5.out.r2.set_st (blockS S T), Row.setCellsOther (by omega) _ _ _ F5.out.r4, below_setCells (Nat.le_refl _) _ _ _ F5.out.bw⟩)
                clear hb5 hc8
                go_upto_region 9 with (with_reducible refine wpList_store_mid rfl 150 (.tmp 37) (.tmp 36) rfl w.heap.size 0 _ rfl rfl ?ht ?hi ?h1 ?_)
                case ht => exact TH.out
                case hi => first | exact info28 | exact info28b
                case h1 => exact U32_one _
                generalize w5.setCells w.heap.size 0 (U32 (stL (blockS S T))) = w6 at *
                have RG6 := Lib.hid F6.out.r2.range
                have BRR := Lib.hid (show HSR ⟨blockS S T, n', T⟩ from ⟨BR.out, ⟨q0, q1⟩, TB.out⟩)
                have L6 := Lib.hid (hsL_len BRR.out.2.2.1)
                have CE := Lib.hid (show canonH ⟨blockS S T, n', T⟩ = ⟨blockS S T, n', Z64⟩ by unfold canonH; dsimp only; rw [HH0.out]; rfl)
                go_wp2_with (with_reducible refine wpList_load_mid rfl 154 (.tmp 2) rfl w.heap.size 0 rfl (hsL ⟨blockS S T, n', T⟩) _ RG6.out Tryz.underlying154 ?ld3 ?li3 ?_)
                case ld3 => rfl
                case li3 => rw [L6.out]; exact info32
                refine (canon_any ⟨blockS S T, n', T⟩ w6 BRR.out).mono ?_
                rintro e w7 ⟨rfl, hb7⟩
                rw [CE.out]
                have F7 := Lib.hid (show FX w ⟨blockS S T, n', T⟩ w7 from ⟨F6.out.r2.below hb7, F6.out.r4.below hb7, F6.out.bw.trans (hb7.mono F6.out.bw.size)⟩)
                have TH7 := Lib.hid (show w7.there w.heap.size 0 73 by have h := F7.out.r2.there; rwa [L6.out] at h)
                have KEY := Lib.hid (show FX w ⟨blockS S T, n', Z64⟩ (w7.setCells w.heap.size 0 (hsL ⟨blockS S T, n', Z64⟩)) from ⟨F7.out.r2.setAll _ (by rw [L6.out]; rfl), Row.setCellsOther (by omega) _ _ _ F7.out.r4, below_setCells (Nat.le_refl _) _ _ _ F7.out.bw⟩)
                have ZONE := Lib.hid (hsL_one ⟨blockS S T, n', Z64⟩)
                clear hb7 F5 F6 RG6 TH R0 R9 F4
                go_wp2_with (with_reducible refine wpList_store_mid rfl 154 (.tmp 2) (.tmp 39) rfl w.heap.size 0 _ rfl rfl ?ht4 ?hi4 ?h14 ?_)
                case ht4 => exact TH7.out
                case hi4 => exact info32
                case h14 => exact ZONE.out
                go_roundw
                case rel => exact ⟨k + 1, by omega, by go_num, by rw [NX.out]; exact KEY.out⟩
                case measure => simp [intOf]; omega
              · have NX := Lib.hid (show atK s bs (k + 1) = ⟨t.st, (t.n + 1) % 18446744073709551616, t.tail.set h x⟩ by rw [SU.out, ST.out, if_neg hz])
                generalize (t.n + 1) % 18446744073709551616 = n' at *
                have hz2 : (n' % 64 == 0) = false := by simpa using hz
                go_wp2_with fail
                go_roundw
                case rel => exact ⟨k + 1, by omega, by go_num, by rw [NX.out]; exact F4.out⟩
                case measure => simp [intOf]; omega
        · obtain rfl : k = m := by omega
          have AE := Lib.hid (show atK s bs k = feedH s bs by rw [← HM.out]; exact atK_all s bs)
          rw [AE.out] at hP
          have R2 := Lib.hid hP.r2.range
          have FLEN := Lib.hid (hsL_len (feedH_range SO.out HB.out).2.2.1)
          have ONE := Lib.hid (hsL_one (feedH s bs))
          have TH := Lib.hid (show wr.there (w.heap.size + 1) 0 73 from hP.r4.there)
          have KEY := Lib.hid (show Row (wr.setCells (w.heap.size + 1) 0 (hsL (feedH s bs))) (w.heap.size + 1) 154 (hsL (feedH s bs)) ∧ Below w.heap.size w (wr.setCells (w.heap.size + 1) 0 (hsL (feedH s bs))) from
            ⟨hP.r4.setAll _ (by rw [FLEN.out]; rfl), below_setCells (by omega) _ _ _ hP.bw⟩)
          clear hP HP AE
          generalize hL : hsL (feedH s bs) = L at *
          have LE := Lib.hid hL
          clear hL
          go_wp2_with (first
            | (with_reducible refine wpList_load_mid rfl 154 (.tmp 2) rfl w.heap.size 0 rfl L _ R2.out Tryz.underlying154 ?ld ?li ?_)
            | (with_reducible refine wpList_store_mid rfl 154 (.tmp 4) (.tmp 40) rfl (w.heap.size + 1) 0 _ rfl rfl ?ht ?hi ?h1 ?_))
          case ld => rfl
          case li => rw [FLEN.out]; exact info32
          case ht => rw [show L.toArray.size = 73 from FLEN.out]; exact TH.out
          case hi => rw [show L.toArray.size = 73 from FLEN.out]; exact info32
          case h1 => exact ONE.out
          exact bodyPost_ret (results_cell rfl _ _ _ (w.heap.size + 1) L _ rfl KEY.out.1.range Tryz.underlying154 rfl (by rw [FLEN.out]; exact info32)) rfl ⟨by rw [LE.out], KEY.out.2⟩
end Go.Proofs.YtfhbpgickkibmaaGreatDoor
