/- The contract of inviteclient.table where the doubled interval is cut. -/
import Derived.Test.YtdooohanhekniaaK
namespace Go.Proofs.Ytdooohanhekniaa
open Go.RowKit

set_option maxHeartbeats 4000000 in
set_option maxRecDepth 100000 in
theorem table_cut (s wt c k ic t : Int) (w : World) (hw0 : 32000 < 2 * wt) (hw1 : wt ≤ 32000) :
    Calls Try.prog 31 #[.agg #[.int .u8 s, .int .i64 wt, .int .i64 c], .agg #[.int .u8 k, .int .i64 ic, .int .u8 t]] w (TabPost ((tRows s wt c ic 32000).map (·.2) ++ loopRows 1 ic ++ loopRows 3 ic) w) := by
  go_enter Try.func31, Try.ntmps31
  go_wp2_with fail
  go_cut [13] from 33 to 88 (fun m wr => ∃ r, m = .map (some r) ∧ w.heap.size ≤ r ∧ TabSet wr r ((tRows s wt c ic 32000).map (·.2)) ∧ Boxes w.heap.size ic wr ∧ Below w.heap.size w wr)
  · rename_i J K' hJ hM
    refine tReg (lo := w.heap.size) (s := s) (wt := wt) (c := c) (k := k) (ic := ic) (t := t) (d := 32000) mixed (by kernel_rfl) ⟨by rfl, by simp; try omega, by rfl, (by repeat (first | exact Bx.new (by simp) (by rfl) | refine Bx.alloc _ ?_)), (by repeat (first | exact Bx.new (by simp) (by rfl) | refine Bx.alloc _ ?_)), (by repeat (first | exact Bx.new (by simp) (by rfl) | refine Bx.alloc _ ?_)), (by repeat (first | exact Bx.new (by simp) (by rfl) | refine Bx.alloc _ ?_)), (by repeat (first | exact Bx.new (by simp) (by rfl) | refine Bx.alloc _ ?_)), (by repeat (first | exact Bx.new (by simp) (by rfl) | refine Bx.alloc _ ?_)), (by repeat (first | exact Bx.new (by simp) (by rfl) | refine Bx.alloc _ ?_)), (by repeat (first | exact Bx.new (by simp) (by rfl) | refine Bx.alloc _ ?_)), (by repeat (first | exact Bx.new (by simp) (by rfl) | refine Bx.alloc _ ?_))⟩ ?_
    intro a' w' r hfr h13 hr ht hk hb
    refine hM _ _ (Met.intro (hJ _ _ ?_))
    obtain ⟨tm, df⟩ := a'
    obtain ⟨f1, f2, f3⟩ := id hfr
    simp only at f1 f2 h13
    subst f2
    have hbx : Boxes w.heap.size ic w' := Boxes.kept (by refine ⟨by simp, ?_, ⟨?_, ?_, ?_, ?_⟩, ⟨?_, ?_, ?_, ?_⟩⟩ <;> go_simp) hk
    have hbw : Below w.heap.size w w' := Below.trans (by repeat (first | exact Below.refl _ _ | refine Below.al _ (by simp; try omega) ?_)) hb
    refine ⟨tm[13]?.getD undef, tm[33]?.getD undef, tm[34]?.getD undef, tm[35]?.getD undef, tm[36]?.getD undef, tm[37]?.getD undef, tm[38]?.getD undef, tm[39]?.getD undef, tm[40]?.getD undef, tm[41]?.getD undef, tm[42]?.getD undef, tm[43]?.getD undef, tm[44]?.getD undef, tm[45]?.getD undef, tm[46]?.getD undef, tm[47]?.getD undef, tm[48]?.getD undef, tm[49]?.getD undef, tm[50]?.getD undef, tm[51]?.getD undef, tm[52]?.getD undef, tm[53]?.getD undef, tm[54]?.getD undef, tm[55]?.getD undef, tm[56]?.getD undef, tm[57]?.getD undef, tm[58]?.getD undef, tm[59]?.getD undef, tm[60]?.getD undef, tm[61]?.getD undef, tm[62]?.getD undef, tm[63]?.getD undef, tm[64]?.getD undef, tm[65]?.getD undef, tm[66]?.getD undef, tm[67]?.getD undef, tm[68]?.getD undef, tm[69]?.getD undef, tm[70]?.getD undef, tm[71]?.getD undef, tm[72]?.getD undef, tm[73]?.getD undef, tm[74]?.getD undef, tm[75]?.getD undef, tm[76]?.getD undef, tm[77]?.getD undef, tm[78]?.getD undef, tm[79]?.getD undef, tm[80]?.getD undef, tm[81]?.getD undef, tm[82]?.getD undef, tm[83]?.getD undef, tm[84]?.getD undef, tm[85]?.getD undef, tm[86]?.getD undef, tm[87]?.getD undef, tm[88]?.getD undef, ⟨r, h13, hr, ht, hbx, hbw⟩, ?_⟩
    refine congrArg (fun x => Act.mk x []) ((lit128 tm f1).trans (congrArg List.toArray ?_))
    refine cons_congr (oldOf hfr tFree2 (x := 0) (by decide)) ?_
    refine cons_congr (oldOf hfr tFree2 (x := 1) (by decide)) ?_
    refine cons_congr (oldOf hfr tFree2 (x := 2) (by decide)) ?_
    refine cons_congr (oldOf hfr tFree2 (x := 3) (by decide)) ?_
    refine cons_congr (oldOf hfr tFree2 (x := 4) (by decide)) ?_
    refine cons_congr (oldOf hfr tFree2 (x := 5) (by decide)) ?_
    refine cons_congr (oldOf hfr tFree2 (x := 6) (by decide)) ?_
    refine cons_congr (oldOf hfr tFree2 (x := 7) (by decide)) ?_
    refine cons_congr (oldOf hfr tFree2 (x := 8) (by decide)) ?_
    refine cons_congr (oldOf hfr tFree2 (x := 9) (by decide)) ?_
    refine cons_congr (oldOf hfr tFree2 (x := 10) (by decide)) ?_
    refine cons_congr (oldOf hfr tFree2 (x := 11) (by decide)) ?_
    refine cons_congr (oldOf hfr tFree2 (x := 12) (by decide)) ?_
    refine cons_congr rfl ?_
    refine cons_congr (oldOf hfr tFree2 (x := 14) (by decide)) ?_
    refine cons_congr (oldOf hfr tFree2 (x := 15) (by decide)) ?_
    refine cons_congr (oldOf hfr tFree2 (x := 16) (by decide)) ?_
    refine cons_congr (oldOf hfr tFree2 (x := 17) (by decide)) ?_
    refine cons_congr (oldOf hfr tFree2 (x := 18) (by decide)) ?_
    refine cons_congr (oldOf hfr tFree2 (x := 19) (by decide)) ?_
    refine cons_congr (oldOf hfr tFree2 (x := 20) (by decide)) ?_
    refine cons_congr (oldOf hfr tFree2 (x := 21) (by decide)) ?_
    refine cons_congr (oldOf hfr tFree2 (x := 22) (by decide)) ?_
    refine cons_congr (oldOf hfr tFree2 (x := 23) (by decide)) ?_
    refine cons_congr (oldOf hfr tFree2 (x := 24) (by decide)) ?_
    refine cons_congr (oldOf hfr tFree2 (x := 25) (by decide)) ?_
    refine cons_congr (oldOf hfr tFree2 (x := 26) (by decide)) ?_
    refine cons_congr (oldOf hfr tFree2 (x := 27) (by decide)) ?_
    refine cons_congr (oldOf hfr tFree2 (x := 28) (by decide)) ?_
    refine cons_congr (oldOf hfr tFree2 (x := 29) (by decide)) ?_
    refine cons_congr (oldOf hfr tFree2 (x := 30) (by decide)) ?_
    refine cons_congr (oldOf hfr tFree2 (x := 31) (by decide)) ?_
    refine cons_congr (oldOf hfr tFree2 (x := 32) (by decide)) ?_
    refine cons_congr rfl ?_
    refine cons_congr rfl ?_
    refine cons_congr rfl ?_
    refine cons_congr rfl ?_
    refine cons_congr rfl ?_
    refine cons_congr rfl ?_
    refine cons_congr rfl ?_
    refine cons_congr rfl ?_
    refine cons_congr rfl ?_
    refine cons_congr rfl ?_
    refine cons_congr rfl ?_
    refine cons_congr rfl ?_
    refine cons_congr rfl ?_
    refine cons_congr rfl ?_
    refine cons_congr rfl ?_
    refine cons_congr rfl ?_
    refine cons_congr rfl ?_
    refine cons_congr rfl ?_
    refine cons_congr rfl ?_
    refine cons_congr rfl ?_
    refine cons_congr rfl ?_
    refine cons_congr rfl ?_
    refine cons_congr rfl ?_
    refine cons_congr rfl ?_
    refine cons_congr rfl ?_
    refine cons_congr rfl ?_
    refine cons_congr rfl ?_
    refine cons_congr rfl ?_
    refine cons_congr rfl ?_
    refine cons_congr rfl ?_
    refine cons_congr rfl ?_
    refine cons_congr rfl ?_
    refine cons_congr rfl ?_
    refine cons_congr rfl ?_
    refine cons_congr rfl ?_
    refine cons_congr rfl ?_
    refine cons_congr rfl ?_
    refine cons_congr rfl ?_
    refine cons_congr rfl ?_
    refine cons_congr rfl ?_
    refine cons_congr rfl ?_
    refine cons_congr rfl ?_
    refine cons_congr rfl ?_
    refine cons_congr rfl ?_
    refine cons_congr rfl ?_
    refine cons_congr rfl ?_
    refine cons_congr rfl ?_
    refine cons_congr rfl ?_
    refine cons_congr rfl ?_
    refine cons_congr rfl ?_
    refine cons_congr rfl ?_
    refine cons_congr rfl ?_
    refine cons_congr rfl ?_
    refine cons_congr rfl ?_
    refine cons_congr rfl ?_
    refine cons_congr rfl ?_
    refine cons_congr (oldOf hfr tFree2 (x := 89) (by decide)) ?_
    refine cons_congr (oldOf hfr tFree2 (x := 90) (by decide)) ?_
    refine cons_congr (oldOf hfr tFree2 (x := 91) (by decide)) ?_
    refine cons_congr (oldOf hfr tFree2 (x := 92) (by decide)) ?_
    refine cons_congr (oldOf hfr tFree2 (x := 93) (by decide)) ?_
    refine cons_congr (oldOf hfr tFree2 (x := 94) (by decide)) ?_
    refine cons_congr (oldOf hfr tFree2 (x := 95) (by decide)) ?_
    refine cons_congr (oldOf hfr tFree2 (x := 96) (by decide)) ?_
    refine cons_congr (oldOf hfr tFree2 (x := 97) (by decide)) ?_
    refine cons_congr (oldOf hfr tFree2 (x := 98) (by decide)) ?_
    refine cons_congr (oldOf hfr tFree2 (x := 99) (by decide)) ?_
    refine cons_congr (oldOf hfr tFree2 (x := 100) (by decide)) ?_
    refine cons_congr (oldOf hfr tFree2 (x := 101) (by decide)) ?_
    refine cons_congr (oldOf hfr tFree2 (x := 102) (by decide)) ?_
    refine cons_congr (oldOf hfr tFree2 (x := 103) (by decide)) ?_
    refine cons_congr (oldOf hfr tFree2 (x := 104) (by decide)) ?_
    refine cons_congr (oldOf hfr tFree2 (x := 105) (by decide)) ?_
    refine cons_congr (oldOf hfr tFree2 (x := 106) (by decide)) ?_
    refine cons_congr (oldOf hfr tFree2 (x := 107) (by decide)) ?_
    refine cons_congr (oldOf hfr tFree2 (x := 108) (by decide)) ?_
    refine cons_congr (oldOf hfr tFree2 (x := 109) (by decide)) ?_
    refine cons_congr (oldOf hfr tFree2 (x := 110) (by decide)) ?_
    refine cons_congr (oldOf hfr tFree2 (x := 111) (by decide)) ?_
    refine cons_congr (oldOf hfr tFree2 (x := 112) (by decide)) ?_
    refine cons_congr (oldOf hfr tFree2 (x := 113) (by decide)) ?_
    refine cons_congr (oldOf hfr tFree2 (x := 114) (by decide)) ?_
    refine cons_congr (oldOf hfr tFree2 (x := 115) (by decide)) ?_
    refine cons_congr (oldOf hfr tFree2 (x := 116) (by decide)) ?_
    refine cons_congr (oldOf hfr tFree2 (x := 117) (by decide)) ?_
    refine cons_congr (oldOf hfr tFree2 (x := 118) (by decide)) ?_
    refine cons_congr (oldOf hfr tFree2 (x := 119) (by decide)) ?_
    refine cons_congr (oldOf hfr tFree2 (x := 120) (by decide)) ?_
    refine cons_congr (oldOf hfr tFree2 (x := 121) (by decide)) ?_
    refine cons_congr (oldOf hfr tFree2 (x := 122) (by decide)) ?_
    refine cons_congr (oldOf hfr tFree2 (x := 123) (by decide)) ?_
    refine cons_congr (oldOf hfr tFree2 (x := 124) (by decide)) ?_
    refine cons_congr (oldOf hfr tFree2 (x := 125) (by decide)) ?_
    refine cons_congr (oldOf hfr tFree2 (x := 126) (by decide)) ?_
    refine cons_congr (oldOf hfr tFree2 (x := 127) (by decide)) ?_
    rfl
  · obtain ⟨r, rfl, hr, ht, hbx, hbw⟩ := hcut
    have hnk := newKeys_t s wt c ic 32000
    generalize hRe : (tRows s wt c ic 32000).map (·.2) = R at *
    have HE := Lib.hid hRe; clear hRe
    have HK := Lib.hid hnk; clear hnk
    have hz : w.heap.size ≤ wc.heap.size := hbw.size
    have HT := Lib.hid ht; have HB := Lib.hid hbx; have HW := Lib.hid hbw; have HR := Lib.hid hr
    clear ht hbx hbw hr hw0 hw1
    go_wp2
    go_loopw [91] (fun i wr => LoopRel w R r wc.heap.size ic i wr) (fun i _ => 2 - (intOf i).toNat)
    case atStart =>
      refine ⟨0, by omega, rfl, ⟨HR.out, ?_, HB.out.kept (Kept.alloc _ _), HW.out.alloc hz _, by simp, by simp, by simp⟩⟩
      have h := (HT.out.below ((Below.refl _ _).alloc (Nat.le_refl _) (.cells #[.int .u8 1, .int .u8 3] 24)))
      simpa [rowsTo] using h
    case round =>
      obtain ⟨j, hj, rfl, hli⟩ := hrel
      clear HT HB HW HR
      match j, hj with
      | 0, _ =>
        have I0 := Lib.hid hli
        obtain ⟨z0, z1, ⟨a0, a1, a2, a3⟩, ⟨b0, b1, b2, b3⟩⟩ := hli.cells
        have hg := hli.lt; have hg0 := hli.c0; have hg1 := hli.c1
        clear hli
        go_wp2_with fail
        refine (outputs_any _ [⟨3, ic, 0, 0⟩] _ (Outs.new rfl (Nat.zero_le _) rfl rfl) (by simp) (by simp)).mono ?_
        rintro e w1 ⟨f, rfl, hf, hb⟩
        have I1 := Lib.hid ((I0.out.alloc _).call hb)
        clear z0 z1 a0 a1 a2 a3 b0 b1 b2 b3 hg hg0 hg1 hb I0
        obtain ⟨fn, cc, dd, rfl⟩ := hf.func
        obtain ⟨w2, hrun, t2, g2, k2⟩ := I1.out.tab.insert ⟨(1, 2, 1, 0), ⟨3, 0, 0⟩, [⟨3, ic, 0, 0⟩]⟩ (newKeys_0 HK.out ic 1 (by simp)) hf
        dsimp only [kV] at hrun
        have hli := I1.out.put t2 g2 k2
        have I2 := Lib.hid hli
        clear I1 t2 g2 k2 hf
        obtain ⟨z0, z1, ⟨a0, a1, a2, a3⟩, ⟨b0, b1, b2, b3⟩⟩ := hli.cells
        clear hli b0 b1 b2 b3
        go_wp2_with fail
        clear hrun
        go_region_held3 (fun w' => w'.cell? ⟨w.heap.size + 1, 1, none⟩ = some (.int .i64 ic) ∧ (w'.cell? ⟨w.heap.size + 1 + 1 + 1, 0, none⟩ = some (.int .u8 3) ∧ w'.cell? ⟨w.heap.size + 1 + 1 + 1, 1, none⟩ = some (.int .i64 ic) ∧ w'.cell? ⟨w.heap.size + 1 + 1 + 1, 2, none⟩ = some (.int .u8 0) ∧ w'.cell? ⟨w.heap.size + 1 + 1 + 1, 3, none⟩ = some (.int .i64 0))) (first | go_keep | exact ⟨I4.out.cells.2.1, I4.out.cells.2.2.1⟩ | exact ⟨I3.out.cells.2.1, I3.out.cells.2.2.1⟩)
          (first
            | (go_at_call 27; refine (timer_any _ _ _).mono ?_; rintro e w' ⟨rfl, rfl⟩)
            | (go_at_call 36; refine (outputs_any _ [⟨3, ic, 0, 0⟩, ⟨4, 0, 13, 32000⟩] _ (Outs.drew (Outs.new (by simp) (Nat.zero_le _) (by rfl) (by rfl))) (by simp) (by simp)).mono ?_; rintro e w3 ⟨f, rfl, hf, hb⟩; have I3 := Lib.hid ((((I2.out.alloc _).alloc _).drew).call hb); clear z0 z1 a0 a1 a2 a3 hb I2; obtain ⟨fn, cc, dd, rfl⟩ := hf.func; obtain ⟨w4, hrun, t4, g4, k4⟩ := I3.out.tab.insert ⟨(1, 2, 2, 0), ⟨4, 0, ic⟩, [⟨3, ic, 0, 0⟩, ⟨4, 0, 13, 32000⟩]⟩ (newKeys_cons (by simp) (newKeys_0 HK.out ic 2 (by simp))) hf; dsimp only [kV] at hrun; have I4 := Lib.hid (I3.out.put t4 g4 k4); clear t4 g4 k4 hf))
        clear hrun I3
        have hli := I4.out
        obtain ⟨z0, z1, ⟨a0, a1, a2, a3⟩, ⟨b0, b1, b2, b3⟩⟩ := hli.cells
        clear hli
        go_wp2_with fail
        go_region_held3 (fun w' => w'.cell? ⟨w.heap.size + 1, 1, none⟩ = some (.int .i64 ic) ∧ (w'.cell? ⟨w.heap.size + 1 + 1 + 1, 0, none⟩ = some (.int .u8 3) ∧ w'.cell? ⟨w.heap.size + 1 + 1 + 1, 1, none⟩ = some (.int .i64 ic) ∧ w'.cell? ⟨w.heap.size + 1 + 1 + 1, 2, none⟩ = some (.int .u8 0) ∧ w'.cell? ⟨w.heap.size + 1 + 1 + 1, 3, none⟩ = some (.int .i64 0)) ∧ (w'.cell? ⟨w.heap.size + 1 + 1 + 1 + 1, 0, none⟩ = some (.int .u8 2) ∧ w'.cell? ⟨w.heap.size + 1 + 1 + 1 + 1, 1, none⟩ = some (.int .i64 ic) ∧ w'.cell? ⟨w.heap.size + 1 + 1 + 1 + 1, 2, none⟩ = some (.int .u8 0) ∧ w'.cell? ⟨w.heap.size + 1 + 1 + 1 + 1, 3, none⟩ = some (.int .i64 0))) (first | go_keep | exact I6.out.cells.2 | exact I5.out.cells.2)
          (first
            | (go_at_call 27; refine (timer_any _ _ _).mono ?_; rintro e w' ⟨rfl, rfl⟩)
            | (go_at_call 36; refine (outputs_any _ [⟨3, ic, 0, 0⟩, ⟨2, ic, 0, 0⟩, ⟨4, 0, 4, 32000⟩] _ (Outs.drew (Outs.new (by simp) (Nat.zero_le _) (by rfl) (by rfl))) (by simp) (by simp)).mono ?_; rintro e w5 ⟨f, rfl, hf, hb⟩; have I5 := Lib.hid ((((I4.out.alloc _).alloc _).drew).call hb); clear z0 z1 a0 a1 a2 a3 b0 b1 b2 b3 hb I4; obtain ⟨fn, cc, dd, rfl⟩ := hf.func; obtain ⟨w6, hrun, t6, g6, k6⟩ := I5.out.tab.insert ⟨(1, 2, 3, 0), ⟨5, 0, ic⟩, [⟨3, ic, 0, 0⟩, ⟨2, ic, 0, 0⟩, ⟨4, 0, 4, 32000⟩]⟩ (newKeys_cons (by simp) (newKeys_cons (by simp) (newKeys_0 HK.out ic 3 (by simp)))) hf; dsimp only [kV] at hrun; have I6 := Lib.hid (I5.out.put t6 g6 k6); clear t6 g6 k6 hf))
        clear hrun I5
        go_wp2_with fail
        go_roundw
        case rel => exact ⟨1, by omega, rfl, I6.out.same (by intro x; simp [rowsTo, loopRows]; constructor <;> intro h <;> simp_all [or_comm, or_left_comm, or_assoc])⟩
        case measure => simp [intOf]
      | 1, _ =>
        have I0 := Lib.hid hli
        obtain ⟨z0, z1, ⟨a0, a1, a2, a3⟩, ⟨b0, b1, b2, b3⟩⟩ := hli.cells
        have hg := hli.lt; have hg0 := hli.c0; have hg1 := hli.c1
        clear hli
        go_wp2_with fail
        refine (outputs_any _ [⟨3, ic, 0, 0⟩] _ (Outs.new rfl (Nat.zero_le _) rfl rfl) (by simp) (by simp)).mono ?_
        rintro e w1 ⟨f, rfl, hf, hb⟩
        have I1 := Lib.hid ((I0.out.alloc _).call hb)
        clear z0 z1 a0 a1 a2 a3 b0 b1 b2 b3 hg hg0 hg1 hb I0
        obtain ⟨fn, cc, dd, rfl⟩ := hf.func
        obtain ⟨w2, hrun, t2, g2, k2⟩ := I1.out.tab.insert ⟨(3, 2, 1, 0), ⟨3, 0, 0⟩, [⟨3, ic, 0, 0⟩]⟩ (newKeys_1 HK.out ic 1 (by simp)) hf
        dsimp only [kV] at hrun
        have hli := I1.out.put t2 g2 k2
        have I2 := Lib.hid hli
        clear I1 t2 g2 k2 hf
        obtain ⟨z0, z1, ⟨a0, a1, a2, a3⟩, ⟨b0, b1, b2, b3⟩⟩ := hli.cells
        clear hli b0 b1 b2 b3
        go_wp2_with fail
        clear hrun
        go_region_held3 (fun w' => w'.cell? ⟨w.heap.size + 1, 1, none⟩ = some (.int .i64 ic) ∧ (w'.cell? ⟨w.heap.size + 1 + 1 + 1, 0, none⟩ = some (.int .u8 3) ∧ w'.cell? ⟨w.heap.size + 1 + 1 + 1, 1, none⟩ = some (.int .i64 ic) ∧ w'.cell? ⟨w.heap.size + 1 + 1 + 1, 2, none⟩ = some (.int .u8 0) ∧ w'.cell? ⟨w.heap.size + 1 + 1 + 1, 3, none⟩ = some (.int .i64 0))) (first | go_keep | exact ⟨I4.out.cells.2.1, I4.out.cells.2.2.1⟩ | exact ⟨I3.out.cells.2.1, I3.out.cells.2.2.1⟩)
          (first
            | (go_at_call 27; refine (timer_any _ _ _).mono ?_; rintro e w' ⟨rfl, rfl⟩)
            | (go_at_call 36; refine (outputs_any _ [⟨3, ic, 0, 0⟩, ⟨4, 0, 13, 32000⟩] _ (Outs.drew (Outs.new (by simp) (Nat.zero_le _) (by rfl) (by rfl))) (by simp) (by simp)).mono ?_; rintro e w3 ⟨f, rfl, hf, hb⟩; have I3 := Lib.hid ((((I2.out.alloc _).alloc _).drew).call hb); clear z0 z1 a0 a1 a2 a3 hb I2; obtain ⟨fn, cc, dd, rfl⟩ := hf.func; obtain ⟨w4, hrun, t4, g4, k4⟩ := I3.out.tab.insert ⟨(3, 2, 2, 0), ⟨4, 0, ic⟩, [⟨3, ic, 0, 0⟩, ⟨4, 0, 13, 32000⟩]⟩ (newKeys_cons (by simp) (newKeys_1 HK.out ic 2 (by simp))) hf; dsimp only [kV] at hrun; have I4 := Lib.hid (I3.out.put t4 g4 k4); clear t4 g4 k4 hf))
        clear hrun I3
        have hli := I4.out
        obtain ⟨z0, z1, ⟨a0, a1, a2, a3⟩, ⟨b0, b1, b2, b3⟩⟩ := hli.cells
        clear hli
        go_wp2_with fail
        go_region_held3 (fun w' => w'.cell? ⟨w.heap.size + 1, 1, none⟩ = some (.int .i64 ic) ∧ (w'.cell? ⟨w.heap.size + 1 + 1 + 1, 0, none⟩ = some (.int .u8 3) ∧ w'.cell? ⟨w.heap.size + 1 + 1 + 1, 1, none⟩ = some (.int .i64 ic) ∧ w'.cell? ⟨w.heap.size + 1 + 1 + 1, 2, none⟩ = some (.int .u8 0) ∧ w'.cell? ⟨w.heap.size + 1 + 1 + 1, 3, none⟩ = some (.int .i64 0)) ∧ (w'.cell? ⟨w.heap.size + 1 + 1 + 1 + 1, 0, none⟩ = some (.int .u8 2) ∧ w'.cell? ⟨w.heap.size + 1 + 1 + 1 + 1, 1, none⟩ = some (.int .i64 ic) ∧ w'.cell? ⟨w.heap.size + 1 + 1 + 1 + 1, 2, none⟩ = some (.int .u8 0) ∧ w'.cell? ⟨w.heap.size + 1 + 1 + 1 + 1, 3, none⟩ = some (.int .i64 0))) (first | go_keep | exact I6.out.cells.2 | exact I5.out.cells.2)
          (first
            | (go_at_call 27; refine (timer_any _ _ _).mono ?_; rintro e w' ⟨rfl, rfl⟩)
            | (go_at_call 36; refine (outputs_any _ [⟨3, ic, 0, 0⟩, ⟨2, ic, 0, 0⟩, ⟨4, 0, 4, 32000⟩] _ (Outs.drew (Outs.new (by simp) (Nat.zero_le _) (by rfl) (by rfl))) (by simp) (by simp)).mono ?_; rintro e w5 ⟨f, rfl, hf, hb⟩; have I5 := Lib.hid ((((I4.out.alloc _).alloc _).drew).call hb); clear z0 z1 a0 a1 a2 a3 b0 b1 b2 b3 hb I4; obtain ⟨fn, cc, dd, rfl⟩ := hf.func; obtain ⟨w6, hrun, t6, g6, k6⟩ := I5.out.tab.insert ⟨(3, 2, 3, 0), ⟨5, 0, ic⟩, [⟨3, ic, 0, 0⟩, ⟨2, ic, 0, 0⟩, ⟨4, 0, 4, 32000⟩]⟩ (newKeys_cons (by simp) (newKeys_cons (by simp) (newKeys_1 HK.out ic 3 (by simp)))) hf; dsimp only [kV] at hrun; have I6 := Lib.hid (I5.out.put t6 g6 k6); clear t6 g6 k6 hf))
        clear hrun I5
        go_wp2_with fail
        go_roundw
        case rel => exact ⟨2, by omega, rfl, I6.out.same (by intro x; simp [rowsTo, loopRows]; constructor <;> intro h <;> simp_all [or_comm, or_left_comm, or_assoc])⟩
        case measure => simp [intOf]
      | 2, _ =>
        have I0 := Lib.hid hli
        clear hli
        go_wp2_with fail
        go_ret
        refine ⟨r, rfl, ?_, I0.out.bw⟩
        have h := I0.out.tab
        rw [← HE.out] at h
        simpa [rowsTo] using h

end Go.Proofs.Ytdooohanhekniaa
