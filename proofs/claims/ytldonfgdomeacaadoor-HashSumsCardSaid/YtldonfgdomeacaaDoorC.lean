/- The contract of hash's process. -/
import Derived.Test.YtldonfgdomeacaaDoorCw
namespace Go.Proofs.YtldonfgdomeacaaDoor
open Go.RowKit
set_option maxRecDepth 100000 in
set_option maxHeartbeats 4000000 in
theorem process_any (s : St) (bs : List Int) (w : World) (hb : Bytes bs) (hs : StR s) (hK : KC w) : Calls Tryd.prog 27 #[.agg (stV s), .agg (U8 bs).toArray] w fun e w' => e = .returned (.agg (stV (blockS s bs))) ∧ Below w.heap.size w w' := by
  have HB := Lib.hid hb; have SR := Lib.hid hs; have HK := Lib.hid hK
  clear hb hs hK
  unfold stV
  go_enter Tryd.func27, Tryd.ntmps27
  go_wp2
  go_loopw [22] (fun v wr => P1R w s bs v wr) (fun v _ => 64 - (intOf v).toNat)
  case atStart =>
    refine ⟨0, by omega, rfl, ⟨?_, ?_, ?_, ?_, ?_⟩⟩
    · exact (((Row.new w 28 (stV s).toList).alloc _).alloc _).alloc _
    · have h := Row.new (w.alloc (.cells (stV s) 28)) 30 (U8 bs)
      rw [World.size_alloc] at h
      exact (h.alloc _).alloc _
    · have h := Row.new ((w.alloc (.cells (stV s) 28)).alloc (.cells (U8 bs).toArray 30)) 28 (U32 (List.replicate 8 0))
      rw [World.size_alloc, World.size_alloc] at h
      exact h.alloc _
    · have h := Row.new (((w.alloc (.cells (stV s) 28)).alloc (.cells (U8 bs).toArray 30)).alloc (.cells (U32 (List.replicate 8 0)).toArray 28)) 51 (U32 (List.replicate 64 0))
      rw [World.size_alloc, World.size_alloc, World.size_alloc] at h
      exact h
    · exact ((((Below.refl _ _).alloc (Nat.le_refl _) _).alloc (by simp) _).alloc (by simp; omega) _).alloc (by simp; omega) _
  case round =>
    obtain ⟨i, hi, rfl, hP⟩ := hrel
    by_cases hlt : i < 64
    · have f5 := hP.r5.frozen i
      obtain ⟨y, hy⟩ : ∃ y, (schedTo bs i ++ List.replicate (64 - i) 0)[i]? = some y := ⟨_, getD_some (by simp [schedTo_length]; omega)⟩
      have c5 : wr.cell? ⟨w.heap.size + 1 + 1 + 1, i, none⟩ = some (.int .u32 y) := (hP.r5.cell i).trans (U32_get hy)
      have l5 := hP.r5.lt
      have HP := Lib.hid hP
      by_cases h16 : i < 16
      ·
        -- [[A
        obtain ⟨e0, p0, p1⟩ := HB.out.at_ (i := 4 * i) (by omega)
        obtain ⟨e1, p2, p3⟩ := HB.out.at_ (i := 4 * i + 1) (by omega)
        obtain ⟨e2, p4, p5⟩ := HB.out.at_ (i := 4 * i + 2) (by omega)
        obtain ⟨e3, p6, p7⟩ := HB.out.at_ (i := 4 * i + 3) (by omega)
        have a0 := (hP.r3.cell (4 * i)).trans (U8_get e0)
        have a1 := (hP.r3.cell (4 * i + 1)).trans (U8_get e1)
        have a2 := (hP.r3.cell (4 * i + 2)).trans (U8_get e2)
        have a3 := (hP.r3.cell (4 * i + 3)).trans (U8_get e3)
        have NW := Lib.hid (show nextW bs (schedTo bs i) i = word bs i by rw [nextW, if_pos h16])
        have WD := Lib.hid (show word bs i = bs.getD (4 * i) 0 * 16777216 + bs.getD (4 * i + 1) 0 * 65536 + bs.getD (4 * i + 2) 0 * 256 + bs.getD (4 * i + 3) 0 from rfl)
        generalize bs.getD (4 * i) 0 = x0 at *
        generalize bs.getD (4 * i + 1) 0 = x1 at *
        generalize bs.getD (4 * i + 2) 0 = x2 at *
        generalize bs.getD (4 * i + 3) 0 = x3 at *
        clear e0 e1 e2 e3 hy hP
        have i0 : (0 : Int) ≤ (i : Int) := Int.natCast_nonneg _
        have i1 : (i : Int) < 64 := by omega
        have j0 : (0 : Int) ≤ 4 * (i : Int) := by omega
        have j1 : 4 * (i : Int) < 64 := by omega
        have j2 : (0 : Int) ≤ 4 * (i : Int) + 1 := by omega
        have j3 : 4 * (i : Int) + 1 < 64 := by omega
        have j4 : (0 : Int) ≤ 4 * (i : Int) + 2 := by omega
        have j5 : 4 * (i : Int) + 2 < 64 := by omega
        have j6 : (0 : Int) ≤ 4 * (i : Int) + 3 := by omega
        have j7 : 4 * (i : Int) + 3 < 64 := by omega
        have kk : ∀ z o, (wr.setCell ⟨w.heap.size + 1 + 1 + 1, i, none⟩ z).cell? ⟨w.heap.size + 1, o, none⟩ = wr.cell? ⟨w.heap.size + 1, o, none⟩ := fun z o => World.cell?_setCell_other _ _ _ _ (by intro e; injection e with e1; omega)
        have t0 : (4 * (i : Int)).toNat = 4 * i := by omega
        have t1 : (4 * (i : Int) + 1).toNat = 4 * i + 1 := by omega
        have t2 : (4 * (i : Int) + 2).toNat = 4 * i + 2 := by omega
        have t3 : (4 * (i : Int) + 3).toNat = 4 * i + 3 := by omega
        have v0 : IntKind.i64.wrap (4 * (i : Int)) = 4 * (i : Int) := IntWalk.i64_in _ (by omega)
        have v1 : IntKind.i64.wrap (4 * (i : Int) + 1) = 4 * (i : Int) + 1 := IntWalk.i64_in _ (by omega)
        have v2 : IntKind.i64.wrap (4 * (i : Int) + 2) = 4 * (i : Int) + 2 := IntWalk.i64_in _ (by omega)
        have v3 : IntKind.i64.wrap (4 * (i : Int) + 3) = 4 * (i : Int) + 3 := IntWalk.i64_in _ (by omega)
        have hd : decide ((i : Int) < 64) = true := by simp; omega
        have hd2 : decide ((i : Int) < 16) = true := by simp; omega
        go_wp2_with fail
        go_region_held3 (fun w' => w'.cell? ⟨w.heap.size + 1, 4 * i, none⟩ = some (.int .u8 x0) ∧ w'.cell? ⟨w.heap.size + 1, 4 * i + 1, none⟩ = some (.int .u8 x1) ∧ w'.cell? ⟨w.heap.size + 1, 4 * i + 2, none⟩ = some (.int .u8 x2) ∧ w'.cell? ⟨w.heap.size + 1, 4 * i + 3, none⟩ = some (.int .u8 x3)) (go_keep) (fail)
        clear t0 t1 t2 t3 v0 v1 v2 v3 kk
        go_wp2_with fail
        go_roundw
        case rel => exact ⟨i + 1, by omega, rfl, (HP.out.store hlt (by rw [NW.out, WD.out]; exact word_or p0 p1 p2 p3 p4 p5 p6 p7)).drew⟩
        case measure => simp [intOf]; omega
        -- ]]A
      ·
        -- [[B
        have hw := fun (q : Nat) (hq : q < i) => sched_at bs i (64 - i) hq HB.out
        obtain ⟨e2, p0, p1⟩ := hw (i - 2) (by omega)
        obtain ⟨e7, p2, p3⟩ := hw (i - 7) (by omega)
        obtain ⟨e15, p4, p5⟩ := hw (i - 15) (by omega)
        obtain ⟨e16, p6, p7⟩ := hw (i - 16) (by omega)
        have a2 := (hP.r5.cell (i - 2)).trans (U32_get e2)
        have a7 := (hP.r5.cell (i - 7)).trans (U32_get e7)
        have a15 := (hP.r5.cell (i - 15)).trans (U32_get e15)
        have a16 := (hP.r5.cell (i - 16)).trans (U32_get e16)
        have NW := Lib.hid (show nextW bs (schedTo bs i) i = AD (AD (AD (sm1 ((schedTo bs i).getD (i - 2) 0)) ((schedTo bs i).getD (i - 7) 0)) (sm0 ((schedTo bs i).getD (i - 15) 0))) ((schedTo bs i).getD (i - 16) 0) by
          rw [nextW, if_neg h16])
        generalize (schedTo bs i).getD (i - 2) 0 = x2 at *
        generalize (schedTo bs i).getD (i - 7) 0 = x7 at *
        generalize (schedTo bs i).getD (i - 15) 0 = x15 at *
        generalize (schedTo bs i).getD (i - 16) 0 = x16 at *
        clear e2 e7 e15 e16 hw hy hP
        have i0 : (0 : Int) ≤ (i : Int) := Int.natCast_nonneg _
        have i1 : (i : Int) < 64 := by omega
        have j0 : (0 : Int) ≤ (i : Int) - 2 := by omega
        have j1 : (i : Int) - 2 < 64 := by omega
        have j2 : (0 : Int) ≤ (i : Int) - 7 := by omega
        have j3 : (i : Int) - 7 < 64 := by omega
        have j4 : (0 : Int) ≤ (i : Int) - 15 := by omega
        have j5 : (i : Int) - 15 < 64 := by omega
        have j6 : (0 : Int) ≤ (i : Int) - 16 := by omega
        have j7 : (i : Int) - 16 < 64 := by omega
        have t0 : ((i : Int) - 2).toNat = i - 2 := by omega
        have t1 : ((i : Int) - 7).toNat = i - 7 := by omega
        have t2 : ((i : Int) - 15).toNat = i - 15 := by omega
        have t3 : ((i : Int) - 16).toNat = i - 16 := by omega
        have v0 : IntKind.i64.wrap ((i : Int) - 2) = (i : Int) - 2 := IntWalk.i64_in _ (by omega)
        have v1 : IntKind.i64.wrap ((i : Int) - 7) = (i : Int) - 7 := IntWalk.i64_in _ (by omega)
        have v2 : IntKind.i64.wrap ((i : Int) - 15) = (i : Int) - 15 := IntWalk.i64_in _ (by omega)
        have v3 : IntKind.i64.wrap ((i : Int) - 16) = (i : Int) - 16 := IntWalk.i64_in _ (by omega)
        have hd : decide ((i : Int) < 64) = true := by simp; omega
        have hd2 : decide ((i : Int) < 16) = false := by simp; omega
        go_wp2_with fail
        go_quiet (fail)
        go_wp2_with fail
        refine (rot_17 x2 _ p0 p1).mono ?_
        rintro e w' ⟨rfl, rfl⟩
        go_wp2_with fail
        refine (rot_19 x2 _ p0 p1).mono ?_
        rintro e w' ⟨rfl, rfl⟩
        go_wp2_with fail
        refine (rot_7 x15 _ p4 p5).mono ?_
        rintro e w' ⟨rfl, rfl⟩
        go_wp2_with fail
        refine (rot_18 x15 _ p4 p5).mono ?_
        rintro e w' ⟨rfl, rfl⟩
        go_wp2_with fail
        have kk : ∀ n z o, o ≠ i → ((wr.drewN n).setCell ⟨w.heap.size + 1 + 1 + 1, i, none⟩ z).cell? ⟨w.heap.size + 1 + 1 + 1, o, none⟩ = wr.cell? ⟨w.heap.size + 1 + 1 + 1, o, none⟩ := fun n z o ho => World.cell?_setCell_other _ _ _ _ (by intro e; injection e with e1 e2; omega)
        have k7 := fun n z => (kk n z (i - 7) (by omega)).trans a7
        have k16 := fun n z => (kk n z (i - 16) (by omega)).trans a16
        have l7 : (7 : Int) ≤ (i : Int) := by omega
        have l16 : (16 : Int) ≤ (i : Int) := by omega
        have m7 : (i : Int) < 64 + 7 := by omega
        have m16 : (i : Int) < 64 + 16 := by omega
        have n7 : (i : Int) < 71 := by omega
        have n16 : (i : Int) < 80 := by omega
        clear kk
        go_region_held3 (fun w' => w'.cell? ⟨w.heap.size + 1 + 1 + 1, i - 7, none⟩ = some (.int .u32 x7) ∧ w'.cell? ⟨w.heap.size + 1 + 1 + 1, i - 16, none⟩ = some (.int .u32 x16)) (go_keep) (fail)
        clear t0 t1 t2 t3 v0 v1 v2 v3 k7 k16
        go_wp2_with fail
        go_roundw
        case rel =>
          refine ⟨i + 1, by omega, rfl, (HP.out.drewN _).store hlt ?_⟩
          rw [NW.out]
          rfl
        case measure => simp [intOf]; omega
        -- ]]B
    · obtain rfl : i = 64 := by omega
      rw [show ((64 : Nat) : Int) = (64 : Int) from rfl]
      have HP := Lib.hid hP.two
      have l2 := hP.r2.lt
      have c0 : wr.cell? ⟨w.heap.size, 0, none⟩ = some (.int .u32 s.a) := hP.r2.cell 0
      have c1 : wr.cell? ⟨w.heap.size, 1, none⟩ = some (.int .u32 s.b) := hP.r2.cell 1
      have c2 : wr.cell? ⟨w.heap.size, 2, none⟩ = some (.int .u32 s.c) := hP.r2.cell 2
      have c3 : wr.cell? ⟨w.heap.size, 3, none⟩ = some (.int .u32 s.d) := hP.r2.cell 3
      have c4 : wr.cell? ⟨w.heap.size, 4, none⟩ = some (.int .u32 s.e) := hP.r2.cell 4
      have c5 : wr.cell? ⟨w.heap.size, 5, none⟩ = some (.int .u32 s.f) := hP.r2.cell 5
      have c6 : wr.cell? ⟨w.heap.size, 6, none⟩ = some (.int .u32 s.g) := hP.r2.cell 6
      have c7 : wr.cell? ⟨w.heap.size, 7, none⟩ = some (.int .u32 s.h) := hP.r2.cell 7
      clear hP
      go_wp2_with fail
      clear c0 c1 c2 c3 c4 c5 c6 c7 l2
      obtain ⟨B, hBB⟩ : ∃ B, B = wr.heap.size := ⟨_, rfl⟩
      rw [← hBB] at HP ⊢
      have HBB := Lib.hid hBB
      clear hBB
      go_loopw [99] (fun v wr => P2R w B s bs v wr) (fun v _ => 64 - (intOf v).toNat)
      case atStart => exact ⟨0, by omega, rfl, HP.out⟩
      case round =>
        clear HP HBB
        obtain ⟨i, hi, rfl, hP⟩ := hrel
        by_cases hlt : i < 64
        ·
          -- [[L2
          have hR := roundTo_range (s := s) SR.out (schedTo bs 64) i
          have HP := Lib.hid hP
          have lv := hP.rv.lt
          have l5 := hP.r5.lt
          obtain ⟨e5, p0, p1⟩ := sched_at bs 64 0 hlt HB.out
          rw [List.replicate_zero, List.append_nil] at e5
          have a5 := (hP.r5.cell i).trans (U32_get e5)
          have ak : wr.cell? ⟨0, i, none⟩ = some (.int .u32 (Ks.getD i 0)) := (HK.out.below hP.bw).2 i hlt
          have NX := Lib.hid (show roundTo Ks (schedTo bs 64) s (i + 1) = rnd (Ks.getD i 0) ((schedTo bs 64).getD i 0) (roundTo Ks (schedTo bs 64) s i) from rfl)
          generalize (schedTo bs 64).getD i 0 = wi at *
          generalize Ks.getD i 0 = ki at *
          have hrv := hP.rv
          generalize roundTo Ks (schedTo bs 64) s i = r at *
          have d0 : wr.cell? ⟨B, 0, none⟩ = some (.int .u32 r.a) := hrv.cell 0
          have d1 : wr.cell? ⟨B, 1, none⟩ = some (.int .u32 r.b) := hrv.cell 1
          have d2 : wr.cell? ⟨B, 2, none⟩ = some (.int .u32 r.c) := hrv.cell 2
          have d3 : wr.cell? ⟨B, 3, none⟩ = some (.int .u32 r.d) := hrv.cell 3
          have d4 : wr.cell? ⟨B, 4, none⟩ = some (.int .u32 r.e) := hrv.cell 4
          have d5 : wr.cell? ⟨B, 5, none⟩ = some (.int .u32 r.f) := hrv.cell 5
          have d6 : wr.cell? ⟨B, 6, none⟩ = some (.int .u32 r.g) := hrv.cell 6
          have d7 : wr.cell? ⟨B, 7, none⟩ = some (.int .u32 r.h) := hrv.cell 7
          have f0 := hrv.frozen 0
          have f1 := hrv.frozen 1
          have f2 := hrv.frozen 2
          have f3 := hrv.frozen 3
          have f4 := hrv.frozen 4
          have f5 := hrv.frozen 5
          have f6 := hrv.frozen 6
          have f7 := hrv.frozen 7
          clear hrv hP e5
          have i0 : (0 : Int) ≤ (i : Int) := Int.natCast_nonneg _
          have i1 : (i : Int) < 64 := by omega
          have hd : decide ((i : Int) < 64) = true := by simp; omega
          obtain ⟨⟨ra0, ra1⟩, ⟨rb0, rb1⟩, ⟨rc0, rc1⟩, ⟨rd0, rd1⟩, ⟨re0, re1⟩, ⟨rf0, rf1⟩, ⟨rg0, rg1⟩, ⟨rh0, rh1⟩⟩ := hR
          go_wp2_with fail
          go_quiet (fail)
          go_upto_region 17 with fail
          go_cut [17] (fun v wx => Is (la1 r.e) wr v wx)
          case first =>
            -- [[R17
            go_wp2_with fail
            refine (rot_6 r.e _ re0 re1).mono ?_
            rintro e w' ⟨rfl, rfl⟩
            go_wp2_with fail
            refine (rot_11 r.e _ re0 re1).mono ?_
            rintro e w' ⟨rfl, rfl⟩
            go_wp2_with fail
            refine (rot_25 r.e _ re0 re1).mono ?_
            rintro e w' ⟨rfl, rfl⟩
            go_wp2_with fail
            go_meet
            exact ⟨rfl, _, rfl⟩
            -- ]]R17
          case rest =>
            obtain ⟨rfl, n1, rfl⟩ := hcut
            go_upto_region 18 with fail
            go_cut [18] (fun v wx => Is (la0 r.a) wr v wx)
            case first =>
              -- [[R18
              go_wp2_with fail
              refine (rot_2 r.a _ ra0 ra1).mono ?_
              rintro e w' ⟨rfl, rfl⟩
              go_wp2_with fail
              refine (rot_13 r.a _ ra0 ra1).mono ?_
              rintro e w' ⟨rfl, rfl⟩
              go_wp2_with fail
              refine (rot_22 r.a _ ra0 ra1).mono ?_
              rintro e w' ⟨rfl, rfl⟩
              go_wp2_with fail
              go_meet
              exact ⟨rfl, _, rfl⟩
              -- ]]R18
            case rest =>
              obtain ⟨rfl, n2, rfl⟩ := hcut
              go_upto_region 19 with fail
              go_cut [19] (fun v wx => Is (tOf ki wi r) wr v wx)
              case first =>
                -- [[R19
                go_quiet (fail)
                go_wp2_with fail
                go_meet
                exact ⟨by rw [t_flat], _, rfl⟩
                -- ]]R19
              case rest =>
                obtain ⟨rfl, n3, rfl⟩ := hcut
                go_upto_region 20 with fail
                go_cut [20] (fun v wx => Is (uOf r) wr v wx)
                case first =>
                  -- [[R20
                  go_wp2_with fail
                  go_meet
                  exact ⟨rfl, _, rfl⟩
                  -- ]]R20
                case rest =>
                  obtain ⟨rfl, n4, rfl⟩ := hcut
                  have ND := Lib.hid (show rnd ki wi r = ⟨(tOf ki wi r + uOf r) % 4294967296, r.a, r.b, r.c, (r.d + tOf ki wi r) % 4294967296, r.e, r.f, r.g⟩ from rfl)
                  generalize tOf ki wi r = t at *
                  generalize uOf r = u at *
                  have KEY := Lib.hid (show P2 w B s bs (i + 1) ((wr.drewN n4).setCells B 0 #[Value.int .u32 ((t + u) % 4294967296), .int .u32 r.a, .int .u32 r.b, .int .u32 r.c, .int .u32 ((r.d + t) % 4294967296), .int .u32 r.e, .int .u32 r.f, .int .u32 r.g].toList) from
                    (HP.out.drewN n4).stores ⟨(t + u) % 4294967296, r.a, r.b, r.c, (r.d + t) % 4294967296, r.e, r.f, r.g⟩ (NX.out.trans ND.out))
                  have TH := Lib.hid (fun n => (HP.out.drewN n).rv.there)
                  clear d0 d1 d2 d4 d7 ak a5 f0 f1 f2 f3 f4 f5 f6 f7
                  go_wp2_with (with_reducible refine wpList_store_mid rfl 28 (.tmp 11) (.tmp 177) rfl B 0 _ rfl rfl ?ht ?hi ?h1 ?_)
                  case ht => exact TH.out _
                  case hi => first | exact info28b | exact info28
                  case h1 => simp [Value.oneCell']
                  go_roundw
                  case rel => exact ⟨i + 1, by omega, rfl, KEY.out⟩
                  case measure => simp [intOf]; omega
          -- ]]L2
        · obtain rfl : i = 64 := by omega
          rw [show ((64 : Nat) : Int) = (64 : Int) from rfl]
          have HP := Lib.hid hP
          clear hP
          go_wp2_with fail
          have HP3 := Lib.hid HP.out.three
          clear HP
          have BD := Lib.hid (show blockS s bs = ⟨AD s.a (roundTo Ks (schedTo bs 64) s 64).a, AD s.b (roundTo Ks (schedTo bs 64) s 64).b, AD s.c (roundTo Ks (schedTo bs 64) s 64).c, AD s.d (roundTo Ks (schedTo bs 64) s 64).d, AD s.e (roundTo Ks (schedTo bs 64) s 64).e, AD s.f (roundTo Ks (schedTo bs 64) s 64).f, AD s.g (roundTo Ks (schedTo bs 64) s 64).g, AD s.h (roundTo Ks (schedTo bs 64) s 64).h⟩ from rfl)
          generalize roundTo Ks (schedTo bs 64) s 64 = r at *
          go_loopw [179] (fun v wr => P3R w B s r v wr) (fun v _ => 8 - (intOf v).toNat)
          case atStart => exact ⟨0, by omega, rfl, HP3.out⟩
          case round =>
            clear HP3
            obtain ⟨i, hi, rfl, hP⟩ := hrel
            by_cases hlt : i < 8
            · have HP := Lib.hid hP
              obtain ⟨e0, e1, _⟩ := mixL_at s r hlt
              have a0 := (hP.r2.cell i).trans (U32_get e0)
              have a1 := (hP.rv.cell i).trans (U32_get e1)
              have f0 := hP.r2.frozen i
              have l0 := hP.r2.lt
              have l1 := hP.rv.lt
              have ST := Lib.hid (hP.drew.store hlt)
              clear e0 e1 hP
              generalize (stL s).getD i 0 = x at *
              generalize (stL r).getD i 0 = y at *
              have i0 : (0 : Int) ≤ (i : Int) := Int.natCast_nonneg _
              have i1 : (i : Int) < 8 := by omega
              have hd : decide ((i : Int) < 8) = true := by simp; omega
              go_wp2_with fail
              go_region
              go_wp2_with fail
              go_roundw
              case rel => exact ⟨i + 1, by omega, rfl, ST.out⟩
              case measure => simp [intOf]; omega
            · obtain rfl : i = 8 := by omega
              rw [show ((8 : Nat) : Int) = (8 : Int) from rfl]
              have HP := Lib.hid hP
              clear hP
              have hL : (U32 (mixL s r 8)).length = 8 := rfl
              have HL := Lib.hid hL
              have H2 := Lib.hid HP.out.r2.range
              have H4 := Lib.hid HP.out.r4.there
              have KEY := Lib.hid (show Row (wr.setCells (w.heap.size + 1 + 1) 0 (U32 (mixL s r 8))) (w.heap.size + 1 + 1) 28 (U32 (mixL s r 8)) ∧ Below w.heap.size w (wr.setCells (w.heap.size + 1 + 1) 0 (U32 (mixL s r 8))) from
                ⟨HP.out.r4.setAll _ rfl, below_setCells (by omega) _ _ _ HP.out.bw⟩)
              have RES := Lib.hid (show stV (blockS s bs) = (U32 (mixL s r 8)).toArray by rw [BD.out]; rfl)
              have ONE := Lib.hid (show (U32 (mixL s r 8)).toArray.all (·.oneCell') = true from U32_one _)
              generalize U32 (mixL s r 8) = L at *
              clear hL BD HP
              go_wp2_with (first
                | (with_reducible refine wpList_load_mid rfl 28 (.tmp 2) rfl w.heap.size 0 rfl L _ H2.out Tryd.underlying28 ?ld ?li ?_)
                | (with_reducible refine wpList_store_mid rfl 28 (.tmp 4) (.tmp 191) rfl (w.heap.size + 1 + 1) 0 _ rfl rfl ?ht ?hi ?h1 ?_))
              case ld => rfl
              case li => rw [HL.out]; exact info28
              case ht => rw [show L.toArray.size = 8 from HL.out]; exact H4.out
              case hi => rw [List.size_toArray, HL.out]; exact info28
              case h1 => exact ONE.out
              refine bodyPost_ret (results_cell rfl _ _ _ (w.heap.size + 1 + 1) L _ rfl KEY.out.1.range Tryd.underlying28 rfl (by rw [HL.out]; exact info28)) rfl ⟨?_, KEY.out.2⟩
              rw [← RES.out]
              rfl
end Go.Proofs.YtldonfgdomeacaaDoor
