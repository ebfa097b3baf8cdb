/- auth's Issue. The reference's Issue. The law AuthIssues. -/
import Derived.Test.YtfhbpgickkibmaaGreatDoorSa
import Derived.Test.YtfhbpgickkibmaaGreatDoorKf
import Derived.Test.YtfhbpgickkibmaaGreatDoorDg
namespace Go.Proofs.YtfhbpgickkibmaaGreatDoor
open Go.RowKit

set_option maxRecDepth 100000 in
set_option maxHeartbeats 2000000 in
theorem issue_any (re ke : ByteArray) (life iss now : Int) (Ea : Option Addr) (en ec : Nat) (l : List Nce) (w : World)
    (hE : Rds w w.heap.size Ea (ncs l)) (hen : l.length = en) (henN : en ≤ 2000000) (s1 : re.size ≤ 4000000) (s2 : ke.size ≤ 4000000) (hnil : Ea = none → en = 0 ∧ ec = 0) (hK : KC w) (hP : PT w) :
    Calls Tryz.prog 28 #[.agg #[.string re, .string ke, .int .i64 life, .int .i64 iss, .slice Ea en ec], .int .i64 now] w (IssP (issL re ke life iss now l) w) := by
  have VB := Lib.hid (fun h => issL_bad (re := re) (ke := ke) (life := life) (iss := iss) (now := now) (l := l) h)
  have VY := Lib.hid (fun h => issL_ok (re := re) (ke := ke) (life := life) (iss := iss) (now := now) (l := l) h)
  have BV := Lib.hid (show badI re ke life iss now l = (!validG (byteL re) (byteL ke) life iss l || (iss == 2147483647 || (decide (now < 0) || decide (1099511627776 < now)))) from rfl)
  have BOK := Lib.hid (fun h => badI_ok (re := re) (ke := ke) (life := life) (iss := iss) (now := now) (l := l) h)
  generalize issL re ke life iss now l = V at *
  have HEN := Lib.hid hen
  have HNIL := Lib.hid hnil
  have S1 : (w.alloc (.cells #[.string re, .string ke, .int .i64 life, .int .i64 iss, .slice Ea en ec] 49)).heap.size = w.heap.size + 1 := World.size_alloc _ _
  have S2 : ((w.alloc (.cells #[.string re, .string ke, .int .i64 life, .int .i64 iss, .slice Ea en ec] 49)).alloc (.cells #[.string ⟨#[]⟩, .string ⟨#[]⟩, .int .i64 0, .int .i64 0, .slice none 0 0] 49)).heap.size = w.heap.size + 1 + 1 := by rw [World.size_alloc, S1]
  have R2 := Lib.hid (show Row (((w.alloc (.cells #[.string re, .string ke, .int .i64 life, .int .i64 iss, .slice Ea en ec] 49)).alloc (.cells #[.string ⟨#[]⟩, .string ⟨#[]⟩, .int .i64 0, .int .i64 0, .slice none 0 0] 49)).alloc (.cells #[.string ⟨#[]⟩, .string ⟨#[]⟩, .string ⟨#[]⟩, .bool false, .bool false] 36)) w.heap.size 49 [.string re, .string ke, .int .i64 life, .int .i64 iss, .slice Ea en ec] from ((Row.new w 49 [.string re, .string ke, .int .i64 life, .int .i64 iss, .slice Ea en ec]).alloc _).alloc _)
  have R4 := Lib.hid (show Row (((w.alloc (.cells #[.string re, .string ke, .int .i64 life, .int .i64 iss, .slice Ea en ec] 49)).alloc (.cells #[.string ⟨#[]⟩, .string ⟨#[]⟩, .int .i64 0, .int .i64 0, .slice none 0 0] 49)).alloc (.cells #[.string ⟨#[]⟩, .string ⟨#[]⟩, .string ⟨#[]⟩, .bool false, .bool false] 36)) (w.heap.size + 1) 49 [.string ⟨#[]⟩, .string ⟨#[]⟩, .int .i64 0, .int .i64 0, .slice none 0 0] by
    have h := Row.new (w.alloc (.cells #[.string re, .string ke, .int .i64 life, .int .i64 iss, .slice Ea en ec] 49)) 49 [.string ⟨#[]⟩, .string ⟨#[]⟩, .int .i64 0, .int .i64 0, .slice none 0 0]
    rw [S1] at h
    exact h.alloc _)
  have R5 := Lib.hid (show Row (((w.alloc (.cells #[.string re, .string ke, .int .i64 life, .int .i64 iss, .slice Ea en ec] 49)).alloc (.cells #[.string ⟨#[]⟩, .string ⟨#[]⟩, .int .i64 0, .int .i64 0, .slice none 0 0] 49)).alloc (.cells #[.string ⟨#[]⟩, .string ⟨#[]⟩, .string ⟨#[]⟩, .bool false, .bool false] 36)) (w.heap.size + 1 + 1) 36 [.string ⟨#[]⟩, .string ⟨#[]⟩, .string ⟨#[]⟩, .bool false, .bool false] by
    have h := Row.new ((w.alloc (.cells #[.string re, .string ke, .int .i64 life, .int .i64 iss, .slice Ea en ec] 49)).alloc (.cells #[.string ⟨#[]⟩, .string ⟨#[]⟩, .int .i64 0, .int .i64 0, .slice none 0 0] 49)) 36 [.string ⟨#[]⟩, .string ⟨#[]⟩, .string ⟨#[]⟩, .bool false, .bool false]
    rw [S2] at h
    exact h)
  have BQ := Lib.hid (show Below w.heap.size w (((w.alloc (.cells #[.string re, .string ke, .int .i64 life, .int .i64 iss, .slice Ea en ec] 49)).alloc (.cells #[.string ⟨#[]⟩, .string ⟨#[]⟩, .int .i64 0, .int .i64 0, .slice none 0 0] 49)).alloc (.cells #[.string ⟨#[]⟩, .string ⟨#[]⟩, .string ⟨#[]⟩, .bool false, .bool false] 36)) from (((Below.refl _ _).alloc (Nat.le_refl _) _).alloc (by rw [S1]; omega) _).alloc (by rw [S2]; omega) _)
  clear S1 S2
  have RV := Lib.hid (fun (X : World) (b : Below w.heap.size w X) => valid_any re ke life iss Ea en ec l X hen ((hE.below b).up b.size) (by omega) s1 s2)
  have HE0 := Lib.hid hE
  have HK := Lib.hid hK; have HP := Lib.hid hP
  clear hK hP
  clear hE hen hnil
  generalize hVG : validG (byteL re) (byteL ke) life iss l = vg at *
  clear hVG
  go_enter Tryz.func28, Tryz.ntmps28
  go_wp2_with (with_reducible refine wpList_loadR rfl 49 (.tmp 2) rfl R2.out rfl Tryz.underlying49 rfl (sizeG _ _ _ _ _) ?_)
  generalize (((w.alloc (.cells #[.string re, .string ke, .int .i64 life, .int .i64 iss, .slice Ea en ec] 49)).alloc (.cells #[.string ⟨#[]⟩, .string ⟨#[]⟩, .int .i64 0, .int .i64 0, .slice none 0 0] 49)).alloc (.cells #[.string ⟨#[]⟩, .string ⟨#[]⟩, .string ⟨#[]⟩, .bool false, .bool false] 36)) = W at *
  refine (RV.out W BQ.out).mono ?_
  rintro e w1 ⟨rfl, hb1⟩
  have R2' := Lib.hid (R2.out.below hb1); have R4' := Lib.hid (R4.out.below hb1); have R5' := Lib.hid (R5.out.below hb1); have BQ' := Lib.hid (bthen BQ.out hb1)
  clear hb1 R2 R4 R5 BQ RV
  have R2 := R2'; have R4 := R4'; have R5 := R5'; have BQ := BQ'
  clear R2' R4' R5' BQ'
  have c3 : w1.cell? ⟨w.heap.size, 3, none⟩ = some (.int .i64 iss) := R2.out.cell 3
  cases vg with
  | false =>
    have E := Lib.hid (VB.out (by rw [BV.out]; rfl))
    clear c3
    go_wp2_with (with_reducible refine wpList_storeR rfl 49 (.tmp 4) (.tmp 25) rfl R4.out [.string ⟨#[]⟩, .string ⟨#[]⟩, .int .i64 0, .int .i64 0, .slice none 0 0] rfl rfl (lenG _ _ _ _ _ _ _ _ _ _) (sizeG _ _ _ _ _) (g_one _ _ _ _ _ _ _) BQ.out (by omega) ?_)
    intro w8 R9 B9 H9
    have R5' := Lib.hid (show Row w8 (w.heap.size + 1 + 1) 36 [.string ⟨#[]⟩, .string ⟨#[]⟩, .string ⟨#[]⟩, .bool false, .bool false] from (H9.out.2 _ (by omega)).trans R5.out)
    go_wp2_with (with_reducible refine wpList_storeR rfl 36 (.tmp 5) (.tmp 26) rfl R5'.out [.string ⟨#[]⟩, .string ⟨#[]⟩, .string ⟨#[]⟩, .bool false, .bool false] rfl rfl (lenG _ _ _ _ _ _ _ _ _ _) (sizeCh _ _ _ _ _) (ch_one _ _ _ _ _) B9.out (by omega) ?_)
    intro w9 RA BA HA
    have RB := Lib.hid (show Row w9 (w.heap.size + 1) 49 [.string ⟨#[]⟩, .string ⟨#[]⟩, .int .i64 0, .int .i64 0, .slice none 0 0] from (HA.out.2 _ (by omega)).trans R9.out)
    go_wp2_with fail
    exact bodyPost_ret (results_cct rfl _ _ _ (w.heap.size + 1) (w.heap.size + 1 + 1) [.string ⟨#[]⟩, .string ⟨#[]⟩, .int .i64 0, .int .i64 0, .slice none 0 0] [.string ⟨#[]⟩, .string ⟨#[]⟩, .string ⟨#[]⟩, .bool false, .bool false] _ _ rfl RB.out.range Tryz.underlying49 rfl sizeG3 rfl RA.out.range Tryz.underlying36 rfl sizeCh5) rfl (by exact IssP.zero E.out BA.out)
  | true =>
  by_cases k0 : iss = 2147483647
  · have d0 : (iss == 2147483647) = true := by simp [k0]
    have E0 := Lib.hid (show badI re ke life iss now l = true by rw [BV.out, d0]; rfl)
    subst k0
    have E := Lib.hid (VB.out (by exact E0.out))
    go_wp2_with (with_reducible refine wpList_storeR rfl 49 (.tmp 4) (.tmp 25) rfl R4.out [.string ⟨#[]⟩, .string ⟨#[]⟩, .int .i64 0, .int .i64 0, .slice none 0 0] rfl rfl (lenG _ _ _ _ _ _ _ _ _ _) (sizeG _ _ _ _ _) (g_one _ _ _ _ _ _ _) BQ.out (by omega) ?_)
    intro w8 R9 B9 H9
    have R5' := Lib.hid (show Row w8 (w.heap.size + 1 + 1) 36 [.string ⟨#[]⟩, .string ⟨#[]⟩, .string ⟨#[]⟩, .bool false, .bool false] from (H9.out.2 _ (by omega)).trans R5.out)
    go_wp2_with (with_reducible refine wpList_storeR rfl 36 (.tmp 5) (.tmp 26) rfl R5'.out [.string ⟨#[]⟩, .string ⟨#[]⟩, .string ⟨#[]⟩, .bool false, .bool false] rfl rfl (lenG _ _ _ _ _ _ _ _ _ _) (sizeCh _ _ _ _ _) (ch_one _ _ _ _ _) B9.out (by omega) ?_)
    intro w9 RA BA HA
    have RB := Lib.hid (show Row w9 (w.heap.size + 1) 49 [.string ⟨#[]⟩, .string ⟨#[]⟩, .int .i64 0, .int .i64 0, .slice none 0 0] from (HA.out.2 _ (by omega)).trans R9.out)
    go_wp2_with fail
    exact bodyPost_ret (results_cct rfl _ _ _ (w.heap.size + 1) (w.heap.size + 1 + 1) [.string ⟨#[]⟩, .string ⟨#[]⟩, .int .i64 0, .int .i64 0, .slice none 0 0] [.string ⟨#[]⟩, .string ⟨#[]⟩, .string ⟨#[]⟩, .bool false, .bool false] _ _ rfl RB.out.range Tryz.underlying49 rfl sizeG3 rfl RA.out.range Tryz.underlying36 rfl sizeCh5) rfl (by exact IssP.zero E.out BA.out)
  have d0 : (iss == 2147483647) = false := by simp [k0]
  have d0' : decide (iss = 2147483647) = false := by simp [k0]
  by_cases k1 : now < 0
  · have d1 : decide (now < 0) = true := by simp [k1]
    clear k0 k1
    have E := Lib.hid (VB.out (by rw [BV.out, d0, d1]; rfl))
    go_wp2_with (with_reducible refine wpList_storeR rfl 49 (.tmp 4) (.tmp 25) rfl R4.out [.string ⟨#[]⟩, .string ⟨#[]⟩, .int .i64 0, .int .i64 0, .slice none 0 0] rfl rfl (lenG _ _ _ _ _ _ _ _ _ _) (sizeG _ _ _ _ _) (g_one _ _ _ _ _ _ _) BQ.out (by omega) ?_)
    intro w8 R9 B9 H9
    have R5' := Lib.hid (show Row w8 (w.heap.size + 1 + 1) 36 [.string ⟨#[]⟩, .string ⟨#[]⟩, .string ⟨#[]⟩, .bool false, .bool false] from (H9.out.2 _ (by omega)).trans R5.out)
    go_wp2_with (with_reducible refine wpList_storeR rfl 36 (.tmp 5) (.tmp 26) rfl R5'.out [.string ⟨#[]⟩, .string ⟨#[]⟩, .string ⟨#[]⟩, .bool false, .bool false] rfl rfl (lenG _ _ _ _ _ _ _ _ _ _) (sizeCh _ _ _ _ _) (ch_one _ _ _ _ _) B9.out (by omega) ?_)
    intro w9 RA BA HA
    have RB := Lib.hid (show Row w9 (w.heap.size + 1) 49 [.string ⟨#[]⟩, .string ⟨#[]⟩, .int .i64 0, .int .i64 0, .slice none 0 0] from (HA.out.2 _ (by omega)).trans R9.out)
    go_wp2_with fail
    exact bodyPost_ret (results_cct rfl _ _ _ (w.heap.size + 1) (w.heap.size + 1 + 1) [.string ⟨#[]⟩, .string ⟨#[]⟩, .int .i64 0, .int .i64 0, .slice none 0 0] [.string ⟨#[]⟩, .string ⟨#[]⟩, .string ⟨#[]⟩, .bool false, .bool false] _ _ rfl RB.out.range Tryz.underlying49 rfl sizeG3 rfl RA.out.range Tryz.underlying36 rfl sizeCh5) rfl (by exact IssP.zero E.out BA.out)
  have d1 : decide (now < 0) = false := by simp; omega
  by_cases k2 : 1099511627776 < now
  · have d2 : decide (1099511627776 < now) = true := by simp [k2]
    clear k0 k1 k2
    have E := Lib.hid (VB.out (by rw [BV.out, d0, d1, d2]; rfl))
    go_wp2_with (with_reducible refine wpList_storeR rfl 49 (.tmp 4) (.tmp 25) rfl R4.out [.string ⟨#[]⟩, .string ⟨#[]⟩, .int .i64 0, .int .i64 0, .slice none 0 0] rfl rfl (lenG _ _ _ _ _ _ _ _ _ _) (sizeG _ _ _ _ _) (g_one _ _ _ _ _ _ _) BQ.out (by omega) ?_)
    intro w8 R9 B9 H9
    have R5' := Lib.hid (show Row w8 (w.heap.size + 1 + 1) 36 [.string ⟨#[]⟩, .string ⟨#[]⟩, .string ⟨#[]⟩, .bool false, .bool false] from (H9.out.2 _ (by omega)).trans R5.out)
    go_wp2_with (with_reducible refine wpList_storeR rfl 36 (.tmp 5) (.tmp 26) rfl R5'.out [.string ⟨#[]⟩, .string ⟨#[]⟩, .string ⟨#[]⟩, .bool false, .bool false] rfl rfl (lenG _ _ _ _ _ _ _ _ _ _) (sizeCh _ _ _ _ _) (ch_one _ _ _ _ _) B9.out (by omega) ?_)
    intro w9 RA BA HA
    have RB := Lib.hid (show Row w9 (w.heap.size + 1) 49 [.string ⟨#[]⟩, .string ⟨#[]⟩, .int .i64 0, .int .i64 0, .slice none 0 0] from (HA.out.2 _ (by omega)).trans R9.out)
    go_wp2_with fail
    exact bodyPost_ret (results_cct rfl _ _ _ (w.heap.size + 1) (w.heap.size + 1 + 1) [.string ⟨#[]⟩, .string ⟨#[]⟩, .int .i64 0, .int .i64 0, .slice none 0 0] [.string ⟨#[]⟩, .string ⟨#[]⟩, .string ⟨#[]⟩, .bool false, .bool false] _ _ rfl RB.out.range Tryz.underlying49 rfl sizeG3 rfl RA.out.range Tryz.underlying36 rfl sizeCh5) rfl (by exact IssP.zero E.out BA.out)
  have d2 : decide (1099511627776 < now) = false := by simp; omega
  have NB := Lib.hid (show badI re ke life iss now l = false by rw [BV.out, d0, d1, d2]; rfl)
  obtain ⟨b1, b2, b3⟩ := BOK.out NB.out
  have E := Lib.hid (VY.out NB.out)
  rw [HEN.out] at b1
  clear BV VB VY BOK k0
  go_wp2_with fail
  clear d0 d0' d1 d2 c3
  have q1 := fun x : BW w1 => R2.out.later x 1
  have q3 := fun x : BW w1 => R2.out.later x 3
  simp only [List.getElem?_cons_succ, List.getElem?_cons_zero] at q1 q3
  have K1 := Lib.hid (HK.out.below BQ.out); have P1 := Lib.hid (HP.out.below BQ.out)
  have LI := Lib.hid (decL_len (n := iss) b2 (by omega)); have LN := Lib.hid (decL_len (n := now) (by omega) (by omega))
  refine region_bwt 7 (by kernel_rfl) (by kernel_rfl) ?_
  simp only [List.take_succ_cons, List.take_zero, List.drop_succ_cons, List.drop_zero]
  iterate 4 go_big_quiet_step (fail)
  go_big_quiet_step (exact calls_bw (itoa_any iss _ b2 (by omega) (P1.out.below (BW.h _))))
  go_big_quiet_step (fail)
  go_big_quiet_step (exact calls_bw (itoa_any now _ (by omega) (by omega) (P1.out.below (BW.h _))))
  refine wpQuiet_nil ?_
  rintro _ ⟨x, rfl⟩
  obtain ⟨wx, hx⟩ : ∃ wx, wx = x.w := ⟨_, rfl⟩
  have BX := Lib.hid (show Below w1.heap.size w1 wx by rw [hx]; exact x.h)
  rw [← hx]
  clear hx x q1 q3
  have R2' := Lib.hid (R2.out.below BX.out); have R4' := Lib.hid (R4.out.below BX.out); have R5' := Lib.hid (R5.out.below BX.out); have BQ' := Lib.hid (bthen BQ.out BX.out)
  clear R2 R4 R5 BQ
  have R2 := R2'; have R4 := R4'; have R5 := R5'; have BQ := BQ'
  clear R2' R4' R5' BQ'
  have K2 := Lib.hid (K1.out.below BX.out)
  clear BX K1 P1
  go_wp2_with fail
  have RT := Lib.hid (Row.new wx 9 [.string ke, .string (strOfNums (decL iss)), .string (strOfNums (decL now))])
  have BC := Lib.hid ((Below.refl wx.heap.size wx).alloc (Nat.le_refl _) (.cells #[.string ke, .string (strOfNums (decL iss)), .string (strOfNums (decL now))] 9))
  refine (hashed_any [ke, strOfNums (decL iss), strOfNums (decL now)] _ 3 _ RT.out rfl (by decide) (by
    simp only [List.map_cons, List.map_nil, List.sum_cons, List.sum_nil, byteL_len, num_size]
    have := LI.out; have := LN.out
    omega) (K2.out.below BC.out)).mono ?_
  rintro e w2 ⟨rfl, hb2⟩
  have BX := Lib.hid (bthen BC.out hb2)
  rw [show [ke, strOfNums (decL iss), strOfNums (decL now)].map byteL = [byteL ke, decL iss, decL now] by
    simp only [List.map_cons, List.map_nil]
    rw [byteL_str (decL_by iss), byteL_str (decL_by now)]]
  rw [show strOfNums (hashL [byteL ke, decL iss, decL now]) = txtI ke iss now from rfl]
  have R2' := Lib.hid (R2.out.below BX.out); have R4' := Lib.hid (R4.out.below BX.out); have R5' := Lib.hid (R5.out.below BX.out); have BQ' := Lib.hid (bthen BQ.out BX.out)
  clear R2 R4 R5 BQ
  have R2 := R2'; have R4 := R4'; have R5 := R5'; have BQ := BQ'
  clear R2' R4' R5' BQ'
  generalize txtI ke iss now = tx at *
  clear hb2 BC RT K2 BX LI LN

  have e4 : w2.cell? ⟨w.heap.size, 4, none⟩ = some (.slice Ea en ec) := R2.out.cell 4
  go_wp2_with fail
  clear e4
  refine (cloneN_any Ea en ec l w2 HEN.out ((HE0.out.below BQ.out).up BQ.out.size) HNIL.out henN).mono ?_
  rintro e w3 ⟨v, rfl, HV⟩
  have V3 := Lib.hid HV
  clear HV HE0 HNIL
  go_wp2_with (with_reducible refine wpList_pushN rfl (.tmp 38) (.tmp 42) rfl v en l HEN.out rfl V3.out ⟨tx, now, 0⟩ rfl (by omega) ?_)
  intro v4 w4 V4
  have BX := Lib.hid (show Below w2.heap.size w2 w4 from V4.out.bw)
  have BX0 := Lib.hid R5.out.lt
  have R2' := Lib.hid (R2.out.below BX.out); have R4' := Lib.hid (R4.out.below BX.out); have R5' := Lib.hid (R5.out.below BX.out); have BQ' := Lib.hid (bthen BQ.out BX.out)
  clear R2 R4 R5 BQ
  have R2 := R2'; have R4 := R4'; have R5 := R5'; have BQ := BQ'
  clear R2' R4' R5' BQ'
  have HL := Lib.hid (show (l ++ [(⟨tx, now, 0⟩ : Nce)]).length = en + 1 by simp [HEN.out])
  have HNX := Lib.hid (show nextN l ⟨tx, now, 0⟩ = if 64 < en + 1 then (l ++ [(⟨tx, now, 0⟩ : Nce)]).drop 1 else l ++ [(⟨tx, now, 0⟩ : Nce)] by unfold nextN; rw [HEN.out])
  generalize nextN l ⟨tx, now, 0⟩ = NX at *
  generalize l ++ [(⟨tx, now, 0⟩ : Nce)] = L at *
  rcases V4.out.form with ⟨_, h0, _⟩ | ⟨gb, gc, rfl, hgc, hgb, hgl, hcell⟩
  · omega
  have RL := Lib.hid (show Rds w4 w4.heap.size (some ⟨gb, 0, none⟩) (ncs L) from fun _ => ⟨gb, 0, rfl, hgl, fun j u hu => by rw [Nat.zero_add]; exact hcell j u hu⟩)
  have GB := Lib.hid (show w.heap.size < gb by have := BX0.out; omega)
  have G4 := Lib.hid (show w.heap.size + 1 + 1 < gb by have := BX0.out; omega)
  clear hcell V4 hgl hgb BX BX0
  have hiw : IntKind.i64.wrap (iss + 1) = iss + 1 := IntWalk.i64_in _ (by omega)
  by_cases k9 : 64 < en + 1
  · obtain rfl : en = 64 := by omega
    have d9 : decide ((64 : Int) < ((64 : Nat) : Int) + 1) = true := by decide
    have hE9 := Lib.hid (show NX = L.drop 1 by rw [HNX.out]; exact if_pos k9)
    have hLd := Lib.hid (show NX.length = 64 by rw [hE9.out, List.length_drop, HL.out])
    have RX := Lib.hid (show Rds w4 w4.heap.size (some ⟨gb, 3, none⟩) (ncs NX) by
      rw [hE9.out]
      have h := RL.out.rest (by rw [HL.out]; omega)
      rwa [Nat.zero_add] at h)
    clear RL HNX hE9 HL
    have e4 : w4.cell? ⟨w.heap.size, 4, none⟩ = some (.slice Ea 64 ec) := R2.out.cell 4
    have e3 : w4.cell? ⟨w.heap.size, 3, none⟩ = some (.int .i64 iss) := R2.out.cell 3
    have f4 := R2.out.frozen 4; have f3 := R2.out.frozen 3
    have T2 := Lib.hid (show Row ((w4.setCell ⟨w.heap.size, 4, none⟩ (.slice (some ⟨gb, 3, none⟩) 64 (gc - 1))).setCell ⟨w.heap.size, 3, none⟩ (.int .i64 (iss + 1))) w.heap.size 49 [.string re, .string ke, .int .i64 life, .int .i64 (iss + 1), .slice (some ⟨gb, 3, none⟩) 64 (gc - 1)] from (R2.out.set 4 _).set 3 _)
    have T4 := Lib.hid (show Row ((w4.setCell ⟨w.heap.size, 4, none⟩ (.slice (some ⟨gb, 3, none⟩) 64 (gc - 1))).setCell ⟨w.heap.size, 3, none⟩ (.int .i64 (iss + 1))) (w.heap.size + 1) 49 [.string ⟨#[]⟩, .string ⟨#[]⟩, .int .i64 0, .int .i64 0, .slice none 0 0] from (R4.out.setOther (by omega) _).setOther (by omega) _)
    have T5 := Lib.hid (show Row ((w4.setCell ⟨w.heap.size, 4, none⟩ (.slice (some ⟨gb, 3, none⟩) 64 (gc - 1))).setCell ⟨w.heap.size, 3, none⟩ (.int .i64 (iss + 1))) (w.heap.size + 1 + 1) 36 [.string ⟨#[]⟩, .string ⟨#[]⟩, .string ⟨#[]⟩, .bool false, .bool false] from (R5.out.setOther (by omega) _).setOther (by omega) _)
    have TB := Lib.hid (show Below w.heap.size w ((w4.setCell ⟨w.heap.size, 4, none⟩ (.slice (some ⟨gb, 3, none⟩) 64 (gc - 1))).setCell ⟨w.heap.size, 3, none⟩ (.int .i64 (iss + 1))) from (BQ.out.setCell (Nat.le_refl _) _).setCell (Nat.le_refl _) _)
    have TX := Lib.hid (show Rds ((w4.setCell ⟨w.heap.size, 4, none⟩ (.slice (some ⟨gb, 3, none⟩) 64 (gc - 1))).setCell ⟨w.heap.size, 3, none⟩ (.int .i64 (iss + 1))) ((w4.setCell ⟨w.heap.size, 4, none⟩ (.slice (some ⟨gb, 3, none⟩) 64 (gc - 1))).setCell ⟨w.heap.size, 3, none⟩ (.int .i64 (iss + 1))).heap.size (some ⟨gb, 3, none⟩) (ncs NX) from RX.out.heapS (x := w.heap.size) (fun b o s e => by injection e with e; injection e with e1; have := GB.out; omega) (by simp [World.setCell]) (fun b' hb' => (Below.heap_setCell _ _ _ b' hb').trans (Below.heap_setCell _ _ _ b' hb')))
    clear R2 R4 R5 BQ RX
    have hg1 : decide (gc = 1) = false := by simp; omega
    go_wp2_with fail
    clear e4 e3 f4 f3 d9 hiw
    generalize ((w4.setCell ⟨w.heap.size, 4, none⟩ (.slice (some ⟨gb, 3, none⟩) 64 (gc - 1))).setCell ⟨w.heap.size, 3, none⟩ (.int .i64 (iss + 1))) = wv at *
    obtain ⟨k0', k1', k2', k3', k4'⟩ := T2.out.five
    obtain ⟨z0, z1, z2, z3, z4⟩ := T4.out.five
    obtain ⟨y0, y1, y2, y3, y4⟩ := T5.out.five
    have f0 := T4.out.frozen 0; have f1 := T4.out.frozen 1; have f2 := T4.out.frozen 2; have f3 := T4.out.frozen 3; have f4 := T4.out.frozen 4
    have g0 := T5.out.frozen 0; have g1 := T5.out.frozen 1; have g2 := T5.out.frozen 2; have g3 := T5.out.frozen 3; have g4 := T5.out.frozen 4
    have rs := ((T4.out.setAll [.string re, .string ke, .int .i64 life, .int .i64 (iss + 1), .slice (some ⟨gb, 3, none⟩) 64 (gc - 1)] rfl).setCellsOther (p := (w.heap.size + 1 + 1)) (by omega) [.string re, .string tx, .string ⟨#[]⟩, .bool true, .bool false] 0).drew
    have rt := (Row.setAll (T5.out.setCellsOther (p := (w.heap.size + 1)) (by omega) [.string re, .string ke, .int .i64 life, .int .i64 (iss + 1), .slice (some ⟨gb, 3, none⟩) 64 (gc - 1)] 0) [.string re, .string tx, .string ⟨#[]⟩, .bool true, .bool false] rfl).drew
    have bs2 := (below_setCells (by omega : w.heap.size ≤ (w.heap.size + 1 + 1)) [.string re, .string tx, .string ⟨#[]⟩, .bool true, .bool false] 0 _ (below_setCells (by omega : w.heap.size ≤ (w.heap.size + 1)) [.string re, .string ke, .int .i64 life, .int .i64 (iss + 1), .slice (some ⟨gb, 3, none⟩) 64 (gc - 1)] 0 _ TB.out)).drew
    have rx := rds_two (b4 := (w.heap.size + 1)) (b5 := (w.heap.size + 1 + 1)) [.string re, .string ke, .int .i64 life, .int .i64 (iss + 1), .slice (some ⟨gb, 3, none⟩) 64 (gc - 1)] [.string re, .string tx, .string ⟨#[]⟩, .bool true, .bool false] TX.out (fun b o s e => by injection e with e; injection e with e1; have := G4.out; omega) (fun b o s e => by injection e with e; injection e with e1; have := G4.out; omega)
    simp only [World.setCells, Nat.zero_add, Nat.reduceAdd] at rs rt bs2 rx
    have RS := Lib.hid rs; have RT := Lib.hid rt; have BS := Lib.hid bs2; have RX := Lib.hid rx
    clear rs rt bs2 rx T2 T4 T5 TB TX
    go_region
    all_goals
      go_wp2_with fail
      exact bodyPost_ret (results_cct rfl _ _ _ (w.heap.size + 1) (w.heap.size + 1 + 1) [.string re, .string ke, .int .i64 life, .int .i64 (iss + 1), .slice (some ⟨gb, 3, none⟩) 64 (gc - 1)] [.string re, .string tx, .string ⟨#[]⟩, .bool true, .bool false] _ _ rfl (by exact RS.out.range) Tryz.underlying49 rfl (sizeG _ _ _ _ _) rfl (by exact RT.out.range) Tryz.underlying36 rfl sizeCh5) rfl (by exact IssP.of E.out BS.out hLd.out (by simp) (fun b o s e => by injection e with e; injection e with e1; have := G4.out; omega) RX.out)
  · have d9 : decide ((64 : Int) < (en : Int) + 1) = false := by simp; omega
    have hE9 := Lib.hid (show NX = L by rw [HNX.out]; exact if_neg k9)
    have hLd := Lib.hid (show NX.length = en + 1 by rw [hE9.out, HL.out])
    have RX := Lib.hid (show Rds w4 w4.heap.size (some ⟨gb, 0, none⟩) (ncs NX) by
      rw [hE9.out]
      exact RL.out)
    clear RL HNX hE9 HL
    have e4 : w4.cell? ⟨w.heap.size, 4, none⟩ = some (.slice Ea en ec) := R2.out.cell 4
    have e3 : w4.cell? ⟨w.heap.size, 3, none⟩ = some (.int .i64 iss) := R2.out.cell 3
    have f4 := R2.out.frozen 4; have f3 := R2.out.frozen 3
    have T2 := Lib.hid (show Row ((w4.setCell ⟨w.heap.size, 4, none⟩ (.slice (some ⟨gb, 0, none⟩) (en + 1) gc)).setCell ⟨w.heap.size, 3, none⟩ (.int .i64 (iss + 1))) w.heap.size 49 [.string re, .string ke, .int .i64 life, .int .i64 (iss + 1), .slice (some ⟨gb, 0, none⟩) (en + 1) gc] from (R2.out.set 4 _).set 3 _)
    have T4 := Lib.hid (show Row ((w4.setCell ⟨w.heap.size, 4, none⟩ (.slice (some ⟨gb, 0, none⟩) (en + 1) gc)).setCell ⟨w.heap.size, 3, none⟩ (.int .i64 (iss + 1))) (w.heap.size + 1) 49 [.string ⟨#[]⟩, .string ⟨#[]⟩, .int .i64 0, .int .i64 0, .slice none 0 0] from (R4.out.setOther (by omega) _).setOther (by omega) _)
    have T5 := Lib.hid (show Row ((w4.setCell ⟨w.heap.size, 4, none⟩ (.slice (some ⟨gb, 0, none⟩) (en + 1) gc)).setCell ⟨w.heap.size, 3, none⟩ (.int .i64 (iss + 1))) (w.heap.size + 1 + 1) 36 [.string ⟨#[]⟩, .string ⟨#[]⟩, .string ⟨#[]⟩, .bool false, .bool false] from (R5.out.setOther (by omega) _).setOther (by omega) _)
    have TB := Lib.hid (show Below w.heap.size w ((w4.setCell ⟨w.heap.size, 4, none⟩ (.slice (some ⟨gb, 0, none⟩) (en + 1) gc)).setCell ⟨w.heap.size, 3, none⟩ (.int .i64 (iss + 1))) from (BQ.out.setCell (Nat.le_refl _) _).setCell (Nat.le_refl _) _)
    have TX := Lib.hid (show Rds ((w4.setCell ⟨w.heap.size, 4, none⟩ (.slice (some ⟨gb, 0, none⟩) (en + 1) gc)).setCell ⟨w.heap.size, 3, none⟩ (.int .i64 (iss + 1))) ((w4.setCell ⟨w.heap.size, 4, none⟩ (.slice (some ⟨gb, 0, none⟩) (en + 1) gc)).setCell ⟨w.heap.size, 3, none⟩ (.int .i64 (iss + 1))).heap.size (some ⟨gb, 0, none⟩) (ncs NX) from RX.out.heapS (x := w.heap.size) (fun b o s e => by injection e with e; injection e with e1; have := GB.out; omega) (by simp [World.setCell]) (fun b' hb' => (Below.heap_setCell _ _ _ b' hb').trans (Below.heap_setCell _ _ _ b' hb')))
    clear R2 R4 R5 BQ RX
    go_wp2_with fail
    clear e4 e3 f4 f3 d9 hiw
    generalize ((w4.setCell ⟨w.heap.size, 4, none⟩ (.slice (some ⟨gb, 0, none⟩) (en + 1) gc)).setCell ⟨w.heap.size, 3, none⟩ (.int .i64 (iss + 1))) = wv at *
    obtain ⟨k0', k1', k2', k3', k4'⟩ := T2.out.five
    obtain ⟨z0, z1, z2, z3, z4⟩ := T4.out.five
    obtain ⟨y0, y1, y2, y3, y4⟩ := T5.out.five
    have f0 := T4.out.frozen 0; have f1 := T4.out.frozen 1; have f2 := T4.out.frozen 2; have f3 := T4.out.frozen 3; have f4 := T4.out.frozen 4
    have g0 := T5.out.frozen 0; have g1 := T5.out.frozen 1; have g2 := T5.out.frozen 2; have g3 := T5.out.frozen 3; have g4 := T5.out.frozen 4
    have rs := ((T4.out.setAll [.string re, .string ke, .int .i64 life, .int .i64 (iss + 1), .slice (some ⟨gb, 0, none⟩) (en + 1) gc] rfl).setCellsOther (p := (w.heap.size + 1 + 1)) (by omega) [.string re, .string tx, .string ⟨#[]⟩, .bool true, .bool false] 0).drew
    have rt := (Row.setAll (T5.out.setCellsOther (p := (w.heap.size + 1)) (by omega) [.string re, .string ke, .int .i64 life, .int .i64 (iss + 1), .slice (some ⟨gb, 0, none⟩) (en + 1) gc] 0) [.string re, .string tx, .string ⟨#[]⟩, .bool true, .bool false] rfl).drew
    have bs2 := (below_setCells (by omega : w.heap.size ≤ (w.heap.size + 1 + 1)) [.string re, .string tx, .string ⟨#[]⟩, .bool true, .bool false] 0 _ (below_setCells (by omega : w.heap.size ≤ (w.heap.size + 1)) [.string re, .string ke, .int .i64 life, .int .i64 (iss + 1), .slice (some ⟨gb, 0, none⟩) (en + 1) gc] 0 _ TB.out)).drew
    have rx := rds_two (b4 := (w.heap.size + 1)) (b5 := (w.heap.size + 1 + 1)) [.string re, .string ke, .int .i64 life, .int .i64 (iss + 1), .slice (some ⟨gb, 0, none⟩) (en + 1) gc] [.string re, .string tx, .string ⟨#[]⟩, .bool true, .bool false] TX.out (fun b o s e => by injection e with e; injection e with e1; have := G4.out; omega) (fun b o s e => by injection e with e; injection e with e1; have := G4.out; omega)
    simp only [World.setCells, Nat.zero_add, Nat.reduceAdd] at rs rt bs2 rx
    have RS := Lib.hid rs; have RT := Lib.hid rt; have BS := Lib.hid bs2; have RX := Lib.hid rx
    clear rs rt bs2 rx T2 T4 T5 TB TX
    go_region
    all_goals
      go_wp2_with fail
      exact bodyPost_ret (results_cct rfl _ _ _ (w.heap.size + 1) (w.heap.size + 1 + 1) [.string re, .string ke, .int .i64 life, .int .i64 (iss + 1), .slice (some ⟨gb, 0, none⟩) (en + 1) gc] [.string re, .string tx, .string ⟨#[]⟩, .bool true, .bool false] _ _ rfl (by exact RS.out.range) Tryz.underlying49 rfl (sizeG _ _ _ _ _) rfl (by exact RT.out.range) Tryz.underlying36 rfl sizeCh5) rfl (by exact IssP.of E.out BS.out hLd.out (by simp) (fun b o s e => by injection e with e; injection e with e1; have := G4.out; omega) RX.out)
end Go.Proofs.YtfhbpgickkibmaaGreatDoor
namespace Go.Proofs.YtfhbpgickkibmaaGreatDoor
open Go.RowKit

end Go.Proofs.YtfhbpgickkibmaaGreatDoor
namespace Go.Proofs.YtfhbpgickkibmaaGreatDoor
open Go.RowKit

end Go.Proofs.YtfhbpgickkibmaaGreatDoor
