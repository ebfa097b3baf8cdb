/- The contract of hash's Finish. -/
import Derived.Test.YtldonfgdomeacaaDoorF
namespace Go.Proofs.YtldonfgdomeacaaDoor
open Go.RowKit

structure N0 (w : World) (s : HS) (v1 v2 : Value) (wx : World) : Prop where
  p1 : v1 = .pointer (some ⟨w.heap.size, 0, none⟩)
  p2 : v2 = .pointer (some ⟨w.heap.size + 1, 0, none⟩)
  r1 : Row wx w.heap.size 32 (hsL s)
  r2 : Row wx (w.heap.size + 1) 24 (U8 (List.replicate 32 0))
  sz : wx.heap.size = w.heap.size + 1 + 1
  bw : Below w.heap.size w wx
structure N2 (w : World) (s : HS) (l : List Int) (wx : World) : Prop where
  r1 : Row wx w.heap.size 32 (hsL s)
  r2 : Row wx (w.heap.size + 1) 24 (U8 (List.replicate 32 0))
  r3 : Row wx (w.heap.size + 1 + 1) 5 (U8 l)
  sz : wx.heap.size = w.heap.size + 1 + 1 + 1
  bw : Below w.heap.size w wx
def N2R (w : World) (s : HS) (l : List Int) (m : Nat) (v : Value) (wx : World) : Prop := v = .slice (some ⟨w.heap.size + 1 + 1, 0, none⟩) m m ∧ N2 w s l wx
def N1R (w : World) (s : HS) (v : Value) (wx : World) : Prop := ∃ i : Nat, i ≤ 8 ∧ v = .int .i64 i ∧ N2 w s (padTo s.n i) wx
theorem size_setCell (w : World) (p : Addr) (u : Value) : (w.setCell p u).heap.size = w.heap.size := by simp [World.setCell]
theorem N2.set {w wx : World} {s : HS} {l : List Int} (h : N2 w s l wx) (i : Nat) (x : Int) : N2 w s (l.set i x) (wx.setCell ⟨w.heap.size + 1 + 1, i, none⟩ (.int .u8 x)) :=
  ⟨h.r1.setOther (by omega) _, h.r2.setOther (by omega) _, by
    have h3 := h.r3.set i (.int .u8 x)
    unfold U8 at h3 ⊢
    rwa [← List.map_set] at h3, by rw [size_setCell, h.sz], h.bw.setCell (by simp; omega) _⟩
theorem N2.drew {w wx : World} {s : HS} {l : List Int} (h : N2 w s l wx) : N2 w s l wx.drew := ⟨h.r1, h.r2, h.r3, h.sz, h.bw.drew⟩
/-- The sum with i bytes laid. -/
def outTo (s : St) (i : Nat) : List Int := (outH s).take i ++ List.replicate (32 - i) 0
theorem outTo_len (s : St) {i : Nat} (hi : i ≤ 32) : (outTo s i).length = 32 := by simp [outTo, outH_len]; omega
theorem outTo_all (s : St) : outTo s 32 = outH s := by
  unfold outTo
  rw [List.take_of_length_le (by rw [outH_len]; omega)]
  simp
theorem outTo_set (s : St) {i : Nat} (hi : i < 32) : (outTo s i).set i (outAt s i) = outTo s (i + 1) := by
  have e1 : (outH s).take (i + 1) = (outH s).take i ++ [outAt s i] := by
    rw [List.take_succ_eq_append_getElem (by rw [outH_len]; exact hi)]
    simp [outH]
  have e2 : List.replicate (32 - i) (0 : Int) = 0 :: List.replicate (32 - (i + 1)) 0 := by
    rw [show 32 - i = (32 - (i + 1)) + 1 by omega, List.replicate_succ]
  unfold outTo
  rw [e1, e2, List.set_append_right _ _ (by rw [List.length_take, outH_len]; omega)]
  rw [List.length_take, outH_len, Nat.min_eq_left (by omega), Nat.sub_self, List.set_cons_zero]
  simp
structure N3 (w : World) (B : Nat) (t : HS) (i : Nat) (wx : World) : Prop where
  r1 : Row wx w.heap.size 32 (hsL t)
  r2 : Row wx (w.heap.size + 1) 24 (U8 (List.replicate 32 0))
  r3 : Row wx B 24 (U8 (outTo t.st i))
  bw : Below w.heap.size w wx
  lo : w.heap.size + 1 < B
def N3R (w : World) (B : Nat) (t : HS) (v : Value) (wx : World) : Prop := ∃ i : Nat, i ≤ 32 ∧ v = .int .i64 i ∧ N3 w B t i wx
theorem N3.store {w wx : World} {B : Nat} {t : HS} {i : Nat} (h : N3 w B t i wx) (hi : i < 32) : N3 w B t (i + 1) (wx.setCell ⟨B, i, none⟩ (.int .u8 (outAt t.st i))) := by
  have hlo := h.lo
  refine ⟨h.r1.setOther (by omega) _, h.r2.setOther (by omega) _, ?_, h.bw.setCell (by simp; omega) _, h.lo⟩
  have h3 := h.r3.set i (.int .u8 (outAt t.st i))
  unfold U8 at h3 ⊢
  rwa [← List.map_set, outTo_set _ hi] at h3
theorem N3.drew {w wx : World} {B : Nat} {t : HS} {i : Nat} (h : N3 w B t i wx) : N3 w B t i wx.drew := ⟨h.r1, h.r2, h.r3, h.bw.drew, h.lo⟩
theorem Row.st_cell {w : World} {b : Nat} {T : TypeId} {s : HS} (h : Row w b T (hsL s)) {k : Nat} (hk : k < 8) : w.cell? ⟨b, k, none⟩ = some (.int .u32 ((stL s.st).getD k 0)) := by
  have h1 := h.st_at k (.int .u32 ((stL s.st).getD k 0)) (U32_get (getD_some hk))
  rwa [Nat.zero_add] at h1
theorem st_range {s : St} (h : StR s) (k : Nat) : 0 ≤ (stL s).getD k 0 ∧ (stL s).getD k 0 < 4294967296 := by
  obtain ⟨h0, h1, h2, h3, h4, h5, h6, h7⟩ := h
  rcases k with _ | _ | _ | _ | _ | _ | _ | _ | k
  · exact h0
  · exact h1
  · exact h2
  · exact h3
  · exact h4
  · exact h5
  · exact h6
  · exact h7
  · exact ⟨Int.le_refl _, by simp [stL]⟩
set_option maxRecDepth 100000 in
set_option maxHeartbeats 300000 in
theorem finish_any (s : HS) (w : World) (hs : HSR s) (hK : KC w) : Calls Tryd.prog 14 #[hsV s] w fun e w' => e = .returned (.agg (U8 (finH s)).toArray) ∧ Below w.heap.size w w' := by
  have SO := Lib.hid hs; have HK := Lib.hid hK
  have n0 := hs.2.1.1
  have n1 := hs.2.1.2
  clear hs hK
  unfold hsV
  go_enter Tryd.func14, Tryd.ntmps14
  go_upto_region 0 with fail
  go_cut [1, 2] (fun v1 v2 wx => N0 w s v1 v2 wx)
  case first =>
    go_wp2_with (with_reducible refine wpList_value rfl _ _ (exec_alloc rfl zero24) ?_)
    go_meet
    refine ⟨rfl, by rw [World.size_alloc], ?_, ?_, by simp, ?_⟩
    · exact (Row.new w 32 (hsL s)).alloc _
    · have h := Row.new (w.alloc (.cells (hsL s).toArray 32)) 24 (U8 (List.replicate 32 0))
      rw [World.size_alloc] at h
      exact h
    · exact ((Below.refl _ _).alloc (Nat.le_refl _) _).alloc (by simp) _
  case rest =>
    obtain ⟨rfl, rfl, r1, r2, sz, bw⟩ := hcut
    obtain ⟨w1, rfl⟩ : ∃ w1 : World, w1 = wc := ⟨_, rfl⟩
    have hn := r1.n_at
    have R1 := Lib.hid r1; have R2 := Lib.hid r2; have BW := Lib.hid bw; have SZ := Lib.hid sz
    clear r1 r2 bw sz
    go_upto_region 1 with fail
    go_cut [3] (fun v wx => SameW (.int .i64 (heldN s.n)) w1 v wx)
    case first =>
      go_wp2_with fail
      go_meet
      exact ⟨by rw [heldN_cast], rfl⟩
    case rest =>
      obtain ⟨rfl, rfl⟩ := hcut
      have hl : heldN s.n < 64 := heldN_lt s.n
      have hl4 : (0 : Int) ≤ ((heldN s.n : Nat) : Int) := by omega
      have hl5 : ((heldN s.n : Nat) : Int) < 64 := by omega
      have ZE := Lib.hid (show (119 - ((heldN s.n : Nat) : Int)) % 64 = ((zN s.n : Nat) : Int) by
        unfold zN
        omega)
      have hz : zN s.n < 64 := zN_lt s.n
      go_upto_region 2 with fail
      go_cut [4] (fun v wx => SameW (.int .i64 (zN s.n)) w1 v wx)
      case first =>
        go_wp2_with fail
        go_meet
        exact ⟨by rw [← ZE.out], rfl⟩
      case rest =>
        clear hl hl4 hl5 ZE hn
        obtain ⟨rfl, rfl⟩ := hcut
        have PL := Lib.hid (show ∀ i, i ≤ 8 → (padTo s.n i).length = 1 + zN s.n + 8 from fun _ h => padTo_len s.n h)
        have PS := Lib.hid (show ∀ i, i < 8 → (padTo s.n i).set (1 + zN s.n + i) (lenAt s.n i) = padTo s.n (i + 1) from fun _ h => padTo_set s.n h)
        have PZ := Lib.hid (show padTo s.n 0 = 128 :: List.replicate (zN s.n + 8) 0 from padTo_zero s.n)
        have PA := Lib.hid (show (padH s.n).length = 1 + zN s.n + 8 from padH_len s.n)
        generalize zN s.n = z at *
        have z0 : (0 : Int) ≤ (z : Int) := by omega
        have z1 : (z : Int) < 64 := by omega
        go_upto_region 3 with fail
        go_cut [5] (fun v wx => N2R w s (List.replicate (1 + z + 8) 0) (1 + z + 8) v wx)
        case first =>
          go_wp2_with (with_reducible refine wpList_value rfl _ _ (exec_make (l := 1 + z + 8) (c := 1 + z + 8) rfl ?h1 ?h2 (Nat.le_refl _) (by omega)) ?_)
          case h1 => exact congrArg (Value.int .i64) (by push_cast; rfl)
          case h2 => exact congrArg (Value.int .i64) (by push_cast; rfl)
          go_meet
          refine ⟨by rw [SZ.out], R1.out.alloc _, R2.out.alloc _, ?_, by rw [World.size_alloc, SZ.out], BW.out.alloc (by rw [SZ.out]; omega) _⟩
          have h := Row.new w1 5 (U8 (List.replicate (1 + z + 8) 0))
          rw [SZ.out] at h
          exact h
        case rest =>
          clear R1 R2 BW SZ
          obtain ⟨rfl, F⟩ := hcut
          obtain ⟨w2, rfl⟩ : ∃ w2 : World, w2 = wc := ⟨_, rfl⟩
          have c0 : w2.cell? ⟨w.heap.size + 1 + 1, 0, none⟩ = some (.int .u8 0) := by
            rw [F.r3.cell 0, show 1 + z + 8 = (z + 8) + 1 by omega, List.replicate_succ]; rfl
          have f0 := F.r3.frozen 0
          have KEY := Lib.hid (show N2 w s (padTo s.n 0) (w2.setCell ⟨w.heap.size + 1 + 1, 0, none⟩ (.int .u8 128)) by
            have h := F.set 0 128
            rw [show 1 + z + 8 = (z + 8) + 1 by omega, List.replicate_succ, List.set_cons_zero, ← PZ.out] at h
            exact h)
          have FH := Lib.hid F
          clear F w1
          go_upto_region 4 with fail
          go_cut [22] (fun _ wx => N2 w s (padTo s.n 0) wx)
          case first =>
            go_wp2_with fail
            go_meet
            exact KEY.out
          case rest =>
            clear KEY FH c0 f0
            obtain ⟨w3, rfl⟩ : ∃ w3 : World, w3 = wc := ⟨_, rfl⟩
            have hn := hcut.r1.n_at
            have FF := Lib.hid hcut
            clear hcut w2
            go_upto_region 5 with fail
            go_cut [6] (fun v wx => SameW (.int .u64 (8 * s.n % 18446744073709551616)) w3 v wx)
            case first =>
              go_wp2_with fail
              go_meet
              exact ⟨by first | rfl | rw [IntKind.wrap_u64], rfl⟩
            case rest =>
              clear hn
              obtain ⟨rfl, rfl⟩ := hcut
              have LE := Lib.hid (show ∀ i, lenAt s.n i = (8 * s.n % 18446744073709551616) / 2 ^ (56 - 8 * i) % 256 from fun i => rfl)
              have L0 : 0 ≤ 8 * s.n % 18446744073709551616 := by omega
              have L1 : 8 * s.n % 18446744073709551616 < 18446744073709551616 := by omega
              generalize 8 * s.n % 18446744073709551616 = L at *
              go_wp2_with fail
              go_loopw [26] (fun v wr => N1R w s v wr) (fun v _ => 8 - (intOf v).toNat)
              case atStart => exact ⟨0, by omega, rfl, FF.out⟩
              case round =>
                clear FF
                obtain ⟨i, hi, rfl, hP⟩ := hrel
                by_cases hlt : i < 8
                · have hd : decide ((i : Int) < 8) = true := by simp; omega
                  have i0 : (0 : Int) ≤ (i : Int) := Int.natCast_nonneg _
                  have i1 : (i : Int) < 8 := by omega
                  have j0 : (0 : Int) ≤ 1 + (z : Int) + (i : Int) := by omega
                  have j1 : 1 + (z : Int) + (i : Int) < 1 + (z : Int) + 8 := by omega
                  have j2 : (0 : Int) ≤ 56 - 8 * (i : Int) := by omega
                  have j3 : 56 - 8 * (i : Int) < 64 := by omega
                  have j4 : (56 - 8 * (i : Int)).toNat = 56 - 8 * i := by omega
                  have j5 : (1 + (z : Int) + (i : Int)).toNat = 1 + z + i := by omega
                  obtain ⟨y, hy⟩ : ∃ y, (padTo s.n i)[1 + z + i]? = some y := ⟨_, getD_some (by rw [PL.out i hi]; omega)⟩
                  have hc := (hP.r3.cell (1 + z + i)).trans (U8_get hy)
                  have hf := hP.r3.frozen (1 + z + i)
                  have HP := Lib.hid hP
                  clear hP hy
                  go_wp2_with fail
                  refine ⟨⟨i + 1, by omega, by push_cast; rfl, ?_⟩, by simp [intOf]; omega⟩
                  have h := HP.out.set (1 + z + i) (lenAt s.n i)
                  rw [PS.out i hlt, LE.out i] at h
                  exact h
                · obtain rfl : i = 8 := by omega
                  clear hi hlt LE L0 L1 PL PS PZ
                  rw [padTo_all] at hP
                  have R1 := Lib.hid hP.r1.range
                  have LEN := Lib.hid (hsL_len SO.out.2.2.1)
                  have ONE := Lib.hid (hsL_one (feedH s (padH s.n)))
                  have FR := Lib.hid (feedH_range SO.out (padH_by s.n))
                  have HP := Lib.hid hP
                  clear hP
                  go_wp2_with (first
                    | (with_reducible refine wpList_load_mid rfl 32 (.tmp 1) rfl w.heap.size 0 rfl (hsL s) _ R1.out Tryd.underlying32 ?ld ?li ?_))
                  case ld => rfl
                  case li => rw [LEN.out]; exact info32
                  refine (feed_any s (some ⟨w.heap.size + 1 + 1, 0, none⟩) (1 + z + 8) (1 + z + 8) (padH s.n) wr SO.out (padH_by s.n) (fun _ => ⟨_, rfl, by have := HP.out.sz; simp; omega, fun j x hx => by
                    rw [Addr.add_mid, Nat.zero_add, HP.out.r3.cell j]
                    exact U8_get hx⟩) PA.out (Nat.le_refl _) (by omega) (HK.out.below HP.out.bw)).mono ?_
                  rintro e w5 ⟨rfl, hb5⟩
                  have OF := Lib.hid (show finH s = outH (feedH s (padH s.n)).st from rfl)
                  have RB := Lib.hid (show Row (w5.setCells w.heap.size 0 (hsL (feedH s (padH s.n)))) w.heap.size 32 (hsL (feedH s (padH s.n))) ∧ Row (w5.setCells w.heap.size 0 (hsL (feedH s (padH s.n)))) (w.heap.size + 1) 24 (U8 (List.replicate 32 0)) ∧ Below w.heap.size w (w5.setCells w.heap.size 0 (hsL (feedH s (padH s.n)))) from by
                    have b1 : Below w.heap.size w w5 := HP.out.bw.trans (hb5.mono HP.out.bw.size)
                    refine ⟨(HP.out.r1.below hb5).setAll _ ?_, Row.setCellsOther (by omega) _ _ _ (HP.out.r2.below hb5), below_setCells (Nat.le_refl _) _ _ _ b1⟩
                    rw [LEN.out, hsL_len FR.out.2.2.1])
                  have TH := Lib.hid ((HP.out.r1.below hb5).there)
                  have FLEN := Lib.hid (hsL_len FR.out.2.2.1)
                  clear hb5 HP R1 SO n0 n1
                  generalize feedH s (padH s.n) = t at *
                  go_upto_region 12 with (with_reducible refine wpList_store_mid rfl 32 (.tmp 1) (.tmp 44) rfl w.heap.size 0 _ rfl rfl ?ht ?hi ?h1 ?_)
                  case ht => rw [show (hsL t).toArray.size = 73 from FLEN.out, ← LEN.out]; exact TH.out
                  case hi => rw [show (hsL t).toArray.size = 73 from FLEN.out]; exact info32
                  case h1 => exact ONE.out
                  clear TH ONE
                  generalize w5.setCells w.heap.size 0 (hsL t) = w6 at *
                  obtain ⟨B, hB⟩ : ∃ B, B = w6.heap.size := ⟨_, rfl⟩
                  have HB := Lib.hid hB
                  clear hB
                  rw [show ∀ (a : Act) (v : Value), a.put none v = a from fun _ _ => rfl]
                  go_cut [8] (fun v wx => v = .pointer (some ⟨B, 0, none⟩) ∧ N3 w B t 0 wx)
                  case first =>
                    go_wp2_with (with_reducible refine wpList_value rfl _ _ (exec_alloc rfl zero24) ?_)
                    go_meet
                    rw [HB.out]
                    exact ⟨rfl, RB.out.1.alloc _, RB.out.2.1.alloc _, Row.new w6 24 _, RB.out.2.2.alloc RB.out.2.2.size _, RB.out.2.1.lt⟩
                  case rest =>
                    clear RB HB
                    obtain ⟨rfl, F⟩ := hcut
                    obtain ⟨w7, rfl⟩ : ∃ w7 : World, w7 = wc := ⟨_, rfl⟩
                    have FF := Lib.hid F
                    clear F w6 wr w5 w3
                    go_wp2_with fail
                    go_loopw [45] (fun v wr => N3R w B t v wr) (fun v _ => 32 - (intOf v).toNat)
                    case atStart => exact ⟨0, by omega, rfl, FF.out⟩
                    case round =>
                      clear FF
                      obtain ⟨i, hi, rfl, hP⟩ := hrel
                      by_cases hlt : i < 32
                      · have hd : decide ((i : Int) < 32) = true := by simp; omega
                        have i0 : (0 : Int) ≤ (i : Int) := Int.natCast_nonneg _
                        have i1 : (i : Int) < 32 := by omega
                        have j0 : (0 : Int) ≤ (i : Int) / 4 := by omega
                        have j1 : (i : Int) / 4 < 8 := by omega
                        have j2 : (0 : Int) ≤ 24 - 8 * ((i : Int) % 4) := by omega
                        have j3 : 24 - 8 * ((i : Int) % 4) < 32 := by omega
                        have j4 : (24 - 8 * ((i : Int) % 4)).toNat = 24 - 8 * (i % 4) := by omega
                        have j5 : ((i : Int) / 4).toNat = i / 4 := by omega
                        have hx := (hP.r1.st_cell (k := i / 4) (by omega))
                        have xr := st_range FR.out.1 (i / 4)
                        have OE := Lib.hid (show outAt t.st i = (stL t.st).getD (i / 4) 0 / 2 ^ (24 - 8 * (i % 4)) % 256 from rfl)
                        generalize (stL t.st).getD (i / 4) 0 = x at *
                        have x0 := xr.1
                        have x1 := xr.2
                        obtain ⟨y, hy⟩ : ∃ y, (outTo t.st i)[i]? = some y := ⟨_, getD_some (by rw [outTo_len _ hi]; omega)⟩
                        have hc := (hP.r3.cell i).trans (U8_get hy)
                        have hf := hP.r3.frozen i
                        have HP := Lib.hid hP
                        clear hP hy xr
                        go_wp2_with fail
                        refine ⟨⟨i + 1, by omega, by push_cast; rfl, ?_⟩, by simp [intOf]; omega⟩
                        have h := HP.out.store hlt
                        rw [OE.out] at h
                        exact h
                      · obtain rfl : i = 32 := by omega
                        have R3 := Lib.hid (show wr.rangeAt B 0 (U8 (finH s)) by
                          have h := hP.r3.range
                          rwa [outTo_all, ← OF.out] at h)
                        have TH := Lib.hid hP.r2.there
                        have LE := Lib.hid (show (U8 (finH s)).length = 32 by rw [OF.out]; simp [U8, outH_len])
                        have KEY := Lib.hid (show Row (wr.setCells (w.heap.size + 1) 0 (U8 (finH s))) (w.heap.size + 1) 24 (U8 (finH s)) ∧ Below w.heap.size w (wr.setCells (w.heap.size + 1) 0 (U8 (finH s))) from
                          ⟨hP.r2.setAll _ (by rw [LE.out]; rfl), below_setCells (by omega) _ _ _ hP.bw⟩)
                        have ONE := Lib.hid (U8_one (finH s))
                        clear hP OF FR FLEN
                        generalize hR : U8 (finH s) = R at *
                        have RE := Lib.hid hR
                        clear hR
                        go_wp2_with (first
                          | (with_reducible refine wpList_load_mid rfl 24 (.tmp 8) rfl B 0 rfl R _ R3.out Tryd.underlying24 ?ld ?li ?_)
                          | (with_reducible refine wpList_store_mid rfl 24 (.tmp 2) _ rfl (w.heap.size + 1) 0 _ rfl rfl ?ht ?hi ?h1 ?_))
                        case ld => rfl
                        case li => rw [LE.out]; exact info24
                        case ht => rw [show R.toArray.size = 32 from LE.out]; exact TH.out
                        case hi => rw [show R.toArray.size = 32 from LE.out]; exact info24
                        case h1 => exact ONE.out
                        exact bodyPost_ret (results_cell rfl _ _ _ (w.heap.size + 1) R _ rfl KEY.out.1.range Tryd.underlying24 rfl (by rw [LE.out]; exact info24)) rfl ⟨by rw [RE.out], KEY.out.2⟩
end Go.Proofs.YtldonfgdomeacaaDoor
