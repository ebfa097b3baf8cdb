/- auth's Issue. The reference's Issue. The law AuthIssues. -/
import Derived.Test.YtfhbpgickkibmaaGreatDoorSa
import Derived.Test.YtfhbpgickkibmaaGreatDoorKf
import Derived.Test.YtfhbpgickkibmaaGreatDoorDg
namespace Go.Proofs.YtfhbpgickkibmaaGreatDoor
open Go.RowKit

set_option maxRecDepth 100000 in
set_option maxHeartbeats 2000000 in
theorem issue_any (re ke : ByteArray) (life iss now : Int) (Ea : Option Addr) (en ec : Nat) (l : List Nce) (w : World)
    (hE : Rds w w.heap.size Ea (ncs l)) (hen : l.length = en) (henN : en ≤ 2000000) (s1 : re.size ≤ 4000000) (s2 : ke.size ≤ 4000000) (hnil : Ea = none → en = 0 ∧ ec = 0) (hK : KC w) (hP : PT w) :
    Calls Tryz.prog 28 #[.agg #[.string re, .string ke, .int .i64 life, .int .i64 iss, .slice Ea en ec], .int .i64 now] w (IssP (issL re ke life iss now l) w) := by
  have VB := Lib.hid (fun h => issL_bad (re := re) (ke := ke) (life := life) (iss := iss) (now := now) (l := l) h)
  have VY := Lib.hid (fun h => issL_ok (re := re) (ke := ke) (life := life) (iss := iss) (now := now) (l := l) h)
  have BV := Lib.hid (show badI re ke life iss now l = (!validG (byteL re) (byteL ke) life iss l || (iss == 2147483647 || (decide (now < 0) || decide (1099511627776 < now)))) from rfl)
  have BOK := Lib.hid (fun h => badI_ok (re := re) (ke := ke) (life := life) (iss := iss) (now := now) (l := l) h)
  generalize issL re ke life iss now l = V at *
  have HEN := Lib.hid hen
  have HNIL := Lib.hid hnil
  have S1 : (w.alloc (.cells #[.string re, .string ke, .int .i64 life, .int .i64 iss, .slice Ea en ec] 49)).heap.size = w.heap.size + 1 := World.size_alloc _ _
  have S2 : ((w.alloc (.cells #[.string re, .string ke, .int .i64 life, .int .i64 iss, .slice Ea en ec] 49)).alloc (.cells #[.string ⟨#[]⟩, .string ⟨#[]⟩, .int .i64 0, .int .i64 0, .slice none 0 0] 49)).heap.size = w.heap.size + 1 + 1 := by rw [World.size_alloc, S1]
  have R2 := Lib.hid (show Row (((w.alloc (.cells #[.string re, .string ke, .int .i64 life, .int .i64 iss, .slice Ea en ec] 49)).alloc (.cells #[.string ⟨#[]⟩, .string ⟨#[]⟩, .int .i64 0, .int .i64 0, .slice none 0 0] 49)).alloc (.cells #[.string ⟨#[]⟩, .string ⟨#[]⟩, .string ⟨#[]⟩, .bool false, .bool false] 36)) w.heap.size 49 [.string re, .string ke, .int .i64 life, .int .i64 iss, .slice Ea en ec] from ((Row.new w 49 [.string re, .string ke, .int .i64 life, .int .i64 iss, .slice Ea en ec]).alloc _).alloc _)
  have R4 := Lib.hid (show Row (((w.alloc (.cells #[.string re, .string ke, .int .i64 life, .int .i64 iss, .slice Ea en ec] 49)).alloc (.cells #[.string ⟨#[]⟩, .string ⟨#[]⟩, .int .i64 0, .int .i64 0, .slice none 0 0] 49)).alloc (.cells #[.string ⟨#[]⟩, .string ⟨#[]⟩, .string ⟨#[]⟩, .bool false, .bool false] 36)) (w.heap.size + 1) 49 [.string ⟨#[]⟩, .string ⟨#[]⟩, .int .i64 0, .int .i64 0, .slice none 0 0] by
    have h := Row.new (w.alloc (.cells #[.string re, .string ke, .int .i64 life, .int .i64 iss, .slice Ea en ec] 49)) 49 [.string ⟨#[]⟩, .string ⟨#[]⟩, .int .i64 0, .int .i64 0, .slice none 0 0]
    rw [S1] at h
    exact h.alloc _)
  have R5 := Lib.hid (show Row (((w.alloc (.cells #[.string re, .string ke, .int .i64 life, .int .i64 iss, .slice Ea en ec] 49)).alloc (.cells #[.string ⟨#[]⟩, .string ⟨#[]⟩, .int .i64 0, .int .i64 0, .slice none 0 0] 49)).alloc (.cells #[.string ⟨#[]⟩, .string ⟨#[]⟩, .string ⟨#[]⟩, .bool false, .bool false] 36)) (w.heap.size + 1 + 1) 36 [.string ⟨#[]⟩, .string ⟨#[]⟩, .string ⟨#[]⟩, .bool false, .bool false] by
    have h := Row.new ((w.alloc (.cells #[.string re, .string ke, .int .i64 life, .int .i64 iss, .slice Ea en ec] 49)).alloc (.cells #[.string ⟨#[]⟩, .string ⟨#[]⟩, .int .i64 0, .int .i64 0, .slice none 0 0] 49)) 36 [.string ⟨#[]⟩, .string ⟨#[]⟩, .string ⟨#[]⟩, .bool false, .bool false]
    rw [S2] at h
    exact h)
  have BQ := Lib.hid (show Below w.heap.size w (((w.alloc (.cells #[.string re, .string ke, .int .i64 life, .int .i64 iss, .slice Ea en ec] 49)).alloc (.cells #[.string ⟨#[]⟩, .string ⟨#[]⟩, .int .i64 0, .int .i64 0, .slice none 0 0] 49)).alloc (.cells #[.string ⟨#[]⟩, .string ⟨#[]⟩, .string ⟨#[]⟩, .bool false, .bool false] 36)) from (((Below.refl _ _).alloc (Nat.le_refl _) _).alloc (by rw [S1]; omega) _).alloc (by rw [S2]; omega) _)
  clear S1 S2
  have RV := Lib.hid (fun (X : World) (b : Below w.heap.size w X) => valid_any re ke life iss Ea en ec l X hen ((hE.below b).up b.size) (by omega) s1 s2)
  have HE0 := Lib.hid hE
  have HK := Lib.hid hK; have HP := Lib.hid hP
  clear hK hP
  clear hE hen hnil
  generalize hVG : validG (byteL re) (byteL ke) life iss l = vg at *
  clear hVG
  go_enter Tryz.func28, Tryz.ntmps28
  go_wp2_with (with_reducible refine wpList_loadR rfl 49 (.tmp 2) rfl R2.out rfl Tryz.underlying49 rfl (sizeG _ _ _ _ _) ?_)
  generalize (((w.alloc (.cells #[.string re, .string ke, .int .i64 life, .int .i64 iss, .slice Ea en ec] 49)).alloc (.cells #[.string ⟨#[]⟩, .string ⟨#[]⟩, .int .i64 0, .int .i64 0, .slice none 0 0] 49)).alloc (.cells #[.string ⟨#[]⟩, .string ⟨#[]⟩, .string ⟨#[]⟩, .bool false, .bool false] 36)) = W at *
  refine (RV.out W BQ.out).mono ?_
  rintro e w1 ⟨rfl, hb1⟩
  have R2' := Lib.hid (R2.out.below hb1); have R4' := Lib.hid (R4.out.below hb1); have R5' := Lib.hid (R5.out.below hb1); have BQ' := Lib.hid (bthen BQ.out hb1)
  clear hb1 R2 R4 R5 BQ RV
  have R2 := R2'; have R4 := R4'; have R5 := R5'; have BQ := BQ'
  clear R2' R4' R5' BQ'
  have c3 : w1.cell? ⟨w.heap.size, 3, none⟩ = some (.int .i64 iss) := R2.out.cell 3
  cases vg with
  | false =>
    have E := Lib.hid (VB.out (by rw [BV.out]; rfl))
    clear c3
    go_wp2_with (with_reducible refine wpList_storeR rfl 49 (.tmp 4) (.tmp 25) rfl R4.out [.string ⟨#[]⟩, .string ⟨#[]⟩, .int .i64 0, .int .i64 0, .slice none 0 0] rfl rfl (lenG _ _ _ _ _ _ _ _ _ _) (sizeG _ _ _ _ _) (g_one _ _ _ _ _ _ _) BQ.out (by omega) ?_)
    intro w8 R9 B9 H9
    have R5' := Lib.hid (show Row w8 (w.heap.size + 1 + 1) 36 [.string ⟨#[]⟩, .string ⟨#[]⟩, .string ⟨#[]⟩, .bool false, .bool false] from (H9.out.2 _ (by omega)).trans R5.out)
    go_wp2_with (with_reducible refine wpList_storeR rfl 36 (.tmp 5) (.tmp 26) rfl R5'.out [.string ⟨#[]⟩, .string ⟨#[]⟩, .string ⟨#[]⟩, .bool false, .bool false] rfl rfl (lenG _ _ _ _ _ _ _ _ _ _) (sizeCh _ _ _ _ _) (ch_one _ _ _ _ _) B9.out (by omega) ?_)
    intro w9 RA BA HA
    have RB := Lib.hid (show Row w9 (w.heap.size + 1) 49 [.string ⟨#[]⟩, .string ⟨#[]⟩, .int .i64 0, .int .i64 0, .slice none 0 0] from (HA.out.2 _ (by omega)).trans R9.out)
    go_wp2_with fail
    exact bodyPost_ret (results_cct rfl _ _ _ (w.heap.size + 1) (w.heap.size + 1 + 1) [.string ⟨#[]⟩, .string ⟨#[]⟩, .int .i64 0, .int .i64 0, .slice none 0 0] [.string ⟨#[]⟩, .string ⟨#[]⟩, .string ⟨#[]⟩, .bool false, .bool false] _ _ rfl RB.out.range Tryz.underlying49 rfl sizeG3 rfl RA.out.range Tryz.underlying36 rfl sizeCh5) rfl (by exact IssP.zero E.out BA.out)
  | true =>
  by_cases k0 : iss = 2147483647
  · have d0 : (iss == 2147483647) = true := by simp [k0]
    have E0 := Lib.hid (show badI re ke life iss now l = true by rw [BV.out, d0]; rfl)
    subst k0
    have E := Lib.hid (VB.out (by exact E0.out))
    go_wp2_with (with_reducible refine wpList_storeR rfl 49 (.tmp 4) (.tmp 25) rfl R4.out [.string ⟨#[]⟩, .string ⟨#[]⟩, .int .i64 0, .int .i64 0, .slice none 0 0] rfl rfl (lenG _ _ _ _ _ _ _ _ _ _) (sizeG _ _ _ _ _) (g_one _ _ _ _ _ _ _) BQ.out (by omega) ?_)
    intro w8 R9 B9 H9
    have R5' := Lib.hid (show Row w8 (w.heap.size + 1 + 1) 36 [.string ⟨#[]⟩, .string ⟨#[]⟩, .string ⟨#[]⟩, .bool false, .bool false] from (H9.out.2 _ (by omega)).trans R5.out)
    go_wp2_with (with_reducible refine wpList_storeR rfl 36 (.tmp 5) (.tmp 26) rfl R5'.out [.string ⟨#[]⟩, .string ⟨#[]⟩, .string ⟨#[]⟩, .bool false, .bool false] rfl rfl (lenG _ _ _ _ _ _ _ _ _ _) (sizeCh _ _ _ _ _) (ch_one _ _ _ _ _) B9.out (by omega) ?_)
    intro w9 RA BA HA
    have RB := Lib.hid (show Row w9 (w.heap.size + 1) 49 [.string ⟨#[]⟩, .string ⟨#[]⟩, .int .i64 0, .int .i64 0, .slice none 0 0] from (HA.out.2 _ (by omega)).trans R9.out)
    go_wp2_with fail
    exact bodyPost_ret (results_cct rfl _ _ _ (w.heap.size + 1) (w.heap.size + 1 + 1) [.string ⟨#[]⟩, .string ⟨#[]⟩, .int .i64 0, .int .i64 0, .slice none 0 0] [.string ⟨#[]⟩, .string ⟨#[]⟩, .string ⟨#[]⟩, .bool false, .bool false] _ _ rfl RB.out.range Tryz.underlying49 rfl sizeG3 rfl RA.out.range Tryz.underlying36 rfl sizeCh5) rfl (by exact IssP.zero E.out BA.out)
  have d0 : (iss == 2147483647) = false := by simp [k0]
  have d0' : decide (iss = 2147483647) = false := by simp [k0]
  by_cases k1 : now < 0
  · have d1 : decide (now < 0) = true := by simp [k1]
    clear k0 k1
    have E := Lib.hid (VB.out (by rw [BV.out, d0, d1]; rfl))
    go_wp2_with (with_reducible refine wpList_storeR rfl 49 (.tmp 4) (.tmp 25) rfl R4.out [.string ⟨#[]⟩, .string ⟨#[]⟩, .int .i64 0, .int .i64 0, .slice none 0 0] rfl rfl (lenG _ _ _ _ _ _ _ _ _ _) (sizeG _ _ _ _ _) (g_one _ _ _ _ _ _ _) BQ.out (by omega) ?_)
    intro w8 R9 B9 H9
    have R5' := Lib.hid (show Row w8 (w.heap.size + 1 + 1) 36 [.string ⟨#[]⟩, .string ⟨#[]⟩, .string ⟨#[]⟩, .bool false, .bool false] from (H9.out.2 _ (by omega)).trans R5.out)
    go_wp2_with (with_reducible refine wpList_storeR rfl 36 (.tmp 5) (.tmp 26) rfl R5'.out [.string ⟨#[]⟩, .string ⟨#[]⟩, .string ⟨#[]⟩, .bool false, .bool false] rfl rfl (lenG _ _ _ _ _ _ _ _ _ _) (sizeCh _ _ _ _ _) (ch_one _ _ _ _ _) B9.out (by omega) ?_)
    intro w9 RA BA HA
    have RB := Lib.hid (show Row w9 (w.heap.size + 1) 49 [.string ⟨#[]⟩, .string ⟨#[]⟩, .int .i64 0, .int .i64 0, .slice none 0 0] from (HA.out.2 _ (by omega)).trans R9.out)
    go_wp2_with fail
    exact bodyPost_ret (results_cct rfl _ _ _ (w.heap.size + 1) (w.heap.size + 1 + 1) [.string ⟨#[]⟩, .string ⟨#[]⟩, .int .i64 0, .int .i64 0, .slice none 0 0] [.string ⟨#[]⟩, .string ⟨#[]⟩, .string ⟨#[]⟩, .bool false, .bool false] _ _ rfl RB.out.range Tryz.underlying49 rfl sizeG3 rfl RA.out.range Tryz.underlying36 rfl sizeCh5) rfl (by exact IssP.zero E.out BA.out)
  have d1 : decide (now < 0) = false := by simp; omega
  by_cases k2 : 1099511627776 < now
  · have d2 : decide (1099511627776 < now) = true := by simp [k2]
    clear k0 k1 k2
    have E := Lib.hid (VB.out (by rw [BV.out, d0, d1, d2]; rfl))
    go_wp2_with (with_reducible refine wpList_storeR rfl 49 (.tmp 4) (.tmp 25) rfl R4.out [.string ⟨#[]⟩, .string ⟨#[]⟩, .int .i64 0, .int .i64 0, .slice none 0 0] rfl rfl (lenG _ _ _ _ _ _ _ _ _ _) (sizeG _ _ _ _ _) (g_one _ _ _ _ _ _ _) BQ.out (by omega) ?_)
    intro w8 R9 B9 H9
    have R5' := Lib.hid (show Row w8 (w.heap.size + 1 + 1) 36 [.string ⟨#[]⟩, .string ⟨#[]⟩, .string ⟨#[]⟩, .bool false, .bool false] from (H9.out.2 _ (by omega)).trans R5.out)
    go_wp2_with (with_reducible refine wpList_storeR rfl 36 (.tmp 5) (.tmp 26) rfl R5'.out [.string ⟨#[]⟩, .string ⟨#[]⟩, .string ⟨#[]⟩, .bool false, .bool false] rfl rfl (lenG _ _ _ _ _ _ _ _ _ _) (sizeCh _ _ _ _ _) (ch_one _ _ _ _ _) B9.out (by omega) ?_)
    intro w9 RA BA HA
    have RB := Lib.hid (show Row w9 (w.heap.size + 1) 49 [.string ⟨#[]⟩, .string ⟨#[]⟩, .int .i64 0, .int .i64 0, .slice none 0 0] from (HA.out.2 _ (by omega)).trans R9.out)
    go_wp2_with fail
    exact bodyPost_ret (results_cct rfl _ _ _ (w.heap.size + 1) (w.heap.size + 1 + 1) [.string ⟨#[]⟩, .string ⟨#[]⟩, .int .i64 0, .int .i64 0, .slice none 0 0] [.string ⟨#[]⟩, .string ⟨#[]⟩, .string ⟨#[]⟩, .bool false, .bool false] _ _ rfl RB.out.range Tryz.underlying49 rfl sizeG3 rfl RA.out.range Tryz.underlying36 rfl sizeCh5) rfl (by exact IssP.zero E.out BA.out)
  have d2 : decide (1099511627776 < now) = false := by simp; omega
  have NB := Lib.hid (show badI re ke life iss now l = false by rw [BV.out, d0, d1, d2]; rfl)
  obtain ⟨b1, b2, b3⟩ := BOK.out NB.out
  have E := Lib.hid (VY.out NB.out)
  rw [HEN.out] at b1
  clear BV VB VY BOK k0
  go_wp2_with fail
  clear d0 d0' d1 d2 c3
  have q1 := fun x : BW w1 => R2.out.later x 1
  have q3 := fun x : BW w1 => R2.out.later x 3
  simp only [List.getElem?_cons_succ, List.getElem?_cons_zero] at q1 q3
  have K1 := Lib.hid (HK.out.below BQ.out); have P1 := Lib.hid (HP.out.below BQ.out)
  have LI := Lib.hid (decL_len (n := iss) b2 (by omega)); have LN := Lib.hid (decL_len (n := now) (by omega) (by omega))
  refine region_bwt 7 (by kernel_rfl) (by kernel_rfl) ?_
  simp only [List.take_succ_cons, List.take_zero, List.drop_succ_cons, List.drop_zero]
  iterate 4 go_big_quiet_step (fail)
  go_big_quiet_step (exact calls_bw (itoa_any iss _ b2 (by omega) (P1.out.below (BW.h _))))
  go_big_quiet_step (fail)
  go_big_quiet_step (exact calls_bw (itoa_any now _ (by omega) (by omega) (P1.out.below (BW.h _))))
  refine wpQuiet_nil ?_
  rintro _ ⟨x, rfl⟩
  obtain ⟨wx, hx⟩ : ∃ wx, wx = x.w := ⟨_, rfl⟩
  have BX := Lib.hid (show Below w1.heap.size w1 wx by rw [hx]; exact x.h)
  rw [← hx]
  clear hx x q1 q3
  have R2' := Lib.hid (R2.out.below BX.out); have R4' := Lib.hid (R4.out.below BX.out); have R5' := Lib.hid (R5.out.below BX.out); have BQ' := Lib.hid (bthen BQ.out BX.out)
  clear R2 R4 R5 BQ
  have R2 := R2'; have R4 := R4'; have R5 := R5'; have BQ := BQ'
  clear R2' R4' R5' BQ'
  have K2 := Lib.hid (K1.out.below BX.out)
  clear BX K1 P1
  go_wp2_with fail
  have RT := Lib.hid (Row.new wx 9 [.string ke, .string (strOfNums (decL iss)), .string (strOfNums (decL now))])
  have BC := Lib.hid ((Below.refl wx.heap.size wx).alloc (Nat.le_refl _) (.cells #[.string ke, .string (strOfNums (decL iss)), .string (strOfNums (decL now))] 9))
  refine (hashed_any [ke, strOfNums (decL iss), strOfNums (decL now)] _ 3 _ RT.out rfl (by decide) (by
    simp only [List.map_cons, List.map_nil, List.sum_cons, List.sum_nil, byteL_len, num_size]
    have := LI.out; have := LN.out
    omega) (K2.out.below BC.out)).mono ?_
  rintro e w2 ⟨rfl, hb2⟩
  have BX := Lib.hid (bthen BC.out hb2)
  rw [show [ke, strOfNums (decL iss), strOfNums (decL now)].map byteL = [byteL ke, decL iss, decL now] by
    simp only [List.map_cons, List.map_nil]
    rw [byteL_str (decL_by iss), byteL_str (decL_by now)]]
  rw [show strOfNums (hashL [byteL ke, decL iss, decL now]) = txtI ke iss now from rfl]
  have R2' := Lib.hid (R2.out.below BX.out); have R4' := Lib.hid (R4.out.below BX.out); have R5' := Lib.hid (R5.out.below BX.out); have BQ' := Lib.hid (bthen BQ.out BX.out)
  clear R2 R4 R5 BQ
  have R2 := R2'; have R4 := R4'; have R5 := R5'; have BQ := BQ'
  clear R2' R4' R5' BQ'
  generalize txtI ke iss now = tx at *
  clear hb2 BC RT K2 BX LI LN

  have e4 : w2.cell? ⟨w.heap.size, 4, none⟩ = some (.slice Ea en ec) := R2.out.cell 4
  go_wp2_with fail
  clear e4
  refine (cloneN_any Ea en ec l w2 HEN.out ((HE0.out.below BQ.out).up BQ.out.size) HNIL.out henN).mono ?_
  rintro e w3 ⟨v, rfl, HV⟩
  have V3 := Lib.hid HV
  clear HV HE0 HNIL
  go_wp2_with (with_reducible refine wpList_pushN rfl (.tmp 38) (.tmp 42) rfl v en l HEN.out rfl V3.out ⟨tx, now, 0⟩ rfl (by omega) ?_)
  intro v4 w4 V4
  have BX := Lib.hid (show Below w2.heap.size w2 w4 from V4.out.bw)
  have BX0 := Lib.hid R5.out.lt
  have R2' := Lib.hid (R2.out.below BX.out); have R4' := Lib.hid (R4.out.below BX.out); have R5' := Lib.hid (R5.out.below BX.out); have BQ' := Lib.hid (bthen BQ.out BX.out)
  clear R2 R4 R5 BQ
  have R2 := R2'; have R4 := R4'; have R5 := R5'; have BQ := BQ'
  clear R2' R4' R5' BQ'
  have HL := Lib.hid (show (l ++ [(⟨tx, now, 0⟩ : Nce)]).length = en + 1 by simp [HEN.out])
  have HNX := Lib.hid (show nextN l ⟨tx, now, 0⟩ = if 64 < en + 1 then (l ++ [(⟨tx, now, 0⟩ : Nce)]).drop 1 else l ++ [(⟨tx, now, 0⟩ : Nce)] by unfold nextN; rw [HEN.out])
  generalize nextN l ⟨tx, now, 0⟩ = NX at *
  generalize l ++ [(⟨tx, now, 0⟩ : Nce)] = L at *
  rcases V4.out.form with ⟨_, h0, _⟩ | ⟨gb, gc, rfl, hgc, hgb, hgl, hcell⟩
  · omega
  have RL := Lib.hid (show Rds w4 w4.heap.size (some ⟨gb, 0, none⟩) (ncs L) from fun _ => ⟨gb, 0, rfl, hgl, fun j u hu => by rw [Nat.zero_add]; exact hcell j u hu⟩)
  have GB := Lib.hid (show w.heap.size < gb by have := BX0.out; omega)
  have G4 := Lib.hid (show w.heap.size + 1 + 1 < gb by have := BX0.out; omega)
  clear hcell V4 hgl hgb BX BX0
  have hiw : IntKind.i64.wrap (iss + 1) = iss + 1 := IntWalk.i64_in _ (by omega)
  by_cases k9 : 64 < en + 1
  · obtain rfl : en = 64 := by omega
    have d9 : decide ((64 : Int) < ((64 : Nat) : Int) + 1) = true := by decide
    have hE9 := Lib.hid (show NX = L.drop 1 by rw [HNX.out]; exact if_pos k9)
    have hLd := Lib.hid (show NX.length = 64 by rw [hE9.out, List.length_drop, HL.out])
    have RX := Lib.hid (show Rds w4 w4.heap.size (some ⟨gb, 3, none⟩) (ncs NX) by
      rw [hE9.out]
      have h := RL.out.rest (by rw [HL.out]; omega)
      rwa [Nat.zero_add] at h)
    clear RL HNX hE9 HL
    have e4 : w4.cell? ⟨w.heap.size, 4, none⟩ = some (.slice Ea 64 ec) := R2.out.cell 4
    have e3 : w4.cell? ⟨w.heap.size, 3, none⟩ = some (.int .i64 iss) := R2.out.cell 3
    have f4 := R2.out.frozen 4; have f3 := R2.out.frozen 3
    have T2 := Lib.hid (show Row ((w4.setCell ⟨w.heap.size, 4, none⟩ (.slice (some ⟨gb, 3, none⟩) 64 (gc - 1))).setCell ⟨w.heap.size, 3, none⟩ (.int .i64 (iss + 1))) w.heap.size 49 [.string re, .string ke, .int .i64 life, .int .i64 (iss + 1), .slice (some ⟨gb, 3, none⟩) 64 (gc - 1)] from (R2.out.set 4 _).set 3 _)
    have T4 := Lib.hid (show Row ((w4.setCell ⟨w.heap.size, 4, none⟩ (.slice (some ⟨gb, 3, none⟩) 64 (gc - 1))).setCell ⟨w.heap.size, 3, none⟩ (.int .i64 (iss + 1))) (w.heap.size + 1) 49 [.string ⟨#[]⟩, .string ⟨#[]⟩, .int .i64 0, .int .i64 0, .slice none 0 0] from (R4.out.setOther (by omega) _).setOther (by omega) _)
    have T5 := Lib.hid (show Row ((w4.setCell ⟨w.heap.size, 4, none⟩ (.slice (some ⟨gb, 3, none⟩) 64 (gc - 1))).setCell ⟨w.heap.size, 3, none⟩ (.int .i64 (iss + 1))) (w.heap.size + 1 + 1) 36 [.string ⟨#[]⟩, .string ⟨#[]⟩, .string ⟨#[]⟩, .bool false, .bool false] from (R5.out.setOther (by omega) _).setOther (by omega) _)
    have TB := Lib.hid (show Below w.heap.size w ((w4.setCell ⟨w.heap.size, 4, none⟩ (.slice (some ⟨gb, 3, none⟩) 64 (gc - 1))).setCell ⟨w.heap.size, 3, none⟩ (.int .i64 (iss + 1))) from (BQ.out.setCell (Nat.le_refl _) _).setCell (Nat.le_refl _) _)
    have TX := Lib.hid (show Rds ((w4.setCell ⟨w.heap.size, 4, none⟩ (.slice (some ⟨gb, 3, none⟩) 64 (gc - 1))).setCell ⟨w.heap.size, 3, none⟩ (.int .i64 (iss + 1))) ((w4.setCell ⟨w.heap.size, 4, none⟩ (.slice (some ⟨gb, 3, none⟩) 64 (gc - 1))).setCell ⟨w.heap.size, 3, none⟩ (.int .i64 (iss + 1))).heap.size (some ⟨gb, 3, none⟩) (ncs NX) from RX.out.heapS (x := w.heap.size) (fun b o s e => by injection e with e; injection e with e1; have := GB.out; omega) (by simp [World.setCell]) (fun b' hb' => (Below.heap_setCell _ _ _ b' hb').trans (Below.heap_setCell _ _ _ b' hb')))
    clear R2 R4 R5 BQ RX
    have hg1 : decide (gc = 1) = false := by simp; omega
    go_wp2_with fail
    clear e4 e3 f4 f3 d9 hiw
    generalize ((w4.setCell ⟨w.heap.size, 4, none⟩ (.slice (some ⟨gb, 3, none⟩) 64 (gc - 1))).setCell ⟨w.heap.size, 3, none⟩ (.int .i64 (iss + 1))) = wv at *
    obtain ⟨k0', k1', k2', k3', k4'⟩ := T2.out.five
    obtain ⟨z0, z1, z2, z3, z4⟩ := T4.out.five
    obtain ⟨y0, y1, y2, y3, y4⟩ := T5.out.five
    have f0 := T4.out.frozen 0; have f1 := T4.out.frozen 1; have f2 := T4.out.frozen 2; have f3 := T4.out.frozen 3; have f4 := T4.out.frozen 4
    have g0 := T5.out.frozen 0; have g1 := T5.out.frozen 1; have g2 := T5.out.frozen 2; have g3 := T5.out.frozen 3; have g4 := T5.out.frozen 4
    have rs := ((T4.out.setAll [.string re, .string ke, .int .i64 life, .int .i64 (iss + 1), .slice (some ⟨gb, 3, none⟩) 64 (gc - 1)] rfl).setCellsOther (p := (w.heap.size + 1 + 1)) (by omega) [.string re, .string tx, .string ⟨#[]⟩, .bool true, .bool false] 0).drew
    have rt := (Row.setAll (T5.out.setCellsOther (p := (w.heap.size + 1)) (by omega) [.string re, .string ke, .int .i64 life, .int .i64 (iss + 1), .slice (some ⟨gb, 3, none⟩) 64 (gc - 1)] 0) [.string re, .string tx, .string ⟨#[]⟩, .bool true, .bool false] rfl).drew
    have bs2 := (below_setCells (by omega : w.heap.size ≤ (w.heap.size + 1 + 1)) [.string re, .string tx, .string ⟨#[]⟩, .bool true, .bool false] 0 _ (below_setCells (by omega : w.heap.size ≤ (w.heap.size + 1)) [.string re, .string ke, .int .i64 life, .int .i64 (iss + 1), .slice (some ⟨gb, 3, none⟩) 64 (gc - 1)] 0 _ TB.out)).drew
    have rx := rds_two (b4 := (w.heap.size + 1)) (b5 := (w.heap.size + 1 + 1)) [.string re, .string ke, .int .i64 life, .int .i64 (iss + 1), .slice (some ⟨gb, 3, none⟩) 64 (gc - 1)] [.string re, .string tx, .string ⟨#[]⟩, .bool true, .bool false] TX.out (fun b o s e => by injection e with e; injection e with e1; have := G4.out; omega) (fun b o s e => by injection e with e; injection e with e1; have := G4.out; omega)
    simp only [World.setCells, Nat.zero_add, Nat.reduceAdd] at rs rt bs2 rx
    have RS := Lib.hid rs; have RT := Lib.hid rt; have BS := Lib.hid bs2; have RX := Lib.hid rx
    clear rs rt bs2 rx T2 T4 T5 TB TX
    go_region
    all_goals
      go_wp2_with fail
      exact bodyPost_ret (results_cct rfl _ _ _ (w.heap.size + 1) (w.heap.size + 1 + 1) [.string re, .string ke, .int .i64 life, .int .i64 (iss + 1), .slice (some ⟨gb, 3, none⟩) 64 (gc - 1)] [.string re, .string tx, .string ⟨#[]⟩, .bool true, .bool false] _ _ rfl (by exact RS.out.range) Tryz.underlying49 rfl (sizeG _ _ _ _ _) rfl (by exact RT.out.range) Tryz.underlying36 rfl sizeCh5) rfl (by exact IssP.of E.out BS.out hLd.out (by simp) (fun b o s e => by injection e with e; injection e with e1; have := G4.out; omega) RX.out)
  · have d9 : decide ((64 : Int) < (en : Int) + 1) = false := by simp; omega
    have hE9 := Lib.hid (show NX = L by rw [HNX.out]; exact if_neg k9)
    have hLd := Lib.hid (show NX.length = en + 1 by rw [hE9.out, HL.out])
    have RX := Lib.hid (show Rds w4 w4.heap.size (some ⟨gb, 0, none⟩) (ncs NX) by
      rw [hE9.out]
      exact RL.out)
    clear RL HNX hE9 HL
    have e4 : w4.cell? ⟨w.heap.size, 4, none⟩ = some (.slice Ea en ec) := R2.out.cell 4
    have e3 : w4.cell? ⟨w.heap.size, 3, none⟩ = some (.int .i64 iss) := R2.out.cell 3
    have f4 := R2.out.frozen 4; have f3 := R2.out.frozen 3
    have T2 := Lib.hid (show Row ((w4.setCell ⟨w.heap.size, 4, none⟩ (.slice (some ⟨gb, 0, none⟩) (en + 1) gc)).setCell ⟨w.heap.size, 3, none⟩ (.int .i64 (iss + 1))) w.heap.size 49 [.string re, .string ke, .int .i64 life, .int .i64 (iss + 1), .slice (some ⟨gb, 0, none⟩) (en + 1) gc] from (R2.out.set 4 _).set 3 _)
    have T4 := Lib.hid (show Row ((w4.setCell ⟨w.heap.size, 4, none⟩ (.slice (some ⟨gb, 0, none⟩) (en + 1) gc)).setCell ⟨w.heap.size, 3, none⟩ (.int .i64 (iss + 1))) (w.heap.size + 1) 49 [.string ⟨#[]⟩, .string ⟨#[]⟩, .int .i64 0, .int .i64 0, .slice none 0 0] from (R4.out.setOther (by omega) _).setOther (by omega) _)
    have T5 := Lib.hid (show Row ((w4.setCell ⟨w.heap.size, 4, none⟩ (.slice (some ⟨gb, 0, none⟩) (en + 1) gc)).setCell ⟨w.heap.size, 3, none⟩ (.int .i64 (iss + 1))) (w.heap.size + 1 + 1) 36 [.string ⟨#[]⟩, .string ⟨#[]⟩, .string ⟨#[]⟩, .bool false, .bool false] from (R5.out.setOther (by omega) _).setOther (by omega) _)
    have TB := Lib.hid (show Below w.heap.size w ((w4.setCell ⟨w.heap.size, 4, none⟩ (.slice (some ⟨gb, 0, none⟩) (en + 1) gc)).setCell ⟨w.heap.size, 3, none⟩ (.int .i64 (iss + 1))) from (BQ.out.setCell (Nat.le_refl _) _).setCell (Nat.le_refl _) _)
    have TX := Lib.hid (show Rds ((w4.setCell ⟨w.heap.size, 4, none⟩ (.slice (some ⟨gb, 0, none⟩) (en + 1) gc)).setCell ⟨w.heap.size, 3, none⟩ (.int .i64 (iss + 1))) ((w4.setCell ⟨w.heap.size, 4, none⟩ (.slice (some ⟨gb, 0, none⟩) (en + 1) gc)).setCell ⟨w.heap.size, 3, none⟩ (.int .i64 (iss + 1))).heap.size (some ⟨gb, 0, none⟩) (ncs NX) from RX.out.heapS (x := w.heap.size) (fun b o s e => by injection e with e; injection e with e1; have := GB.out; omega) (by simp [World.setCell]) (fun b' hb' => (Below.heap_setCell _ _ _ b' hb').trans (Below.heap_setCell _ _ _ b' hb')))
    clear R2 R4 R5 BQ RX
    go_wp2_with fail
    clear e4 e3 f4 f3 d9 hiw
    generalize ((w4.setCell ⟨w.heap.size, 4, none⟩ (.slice (some ⟨gb, 0, none⟩) (en + 1) gc)).setCell ⟨w.heap.size, 3, none⟩ (.int .i64 (iss + 1))) = wv at *
    obtain ⟨k0', k1', k2', k3', k4'⟩ := T2.out.five
    obtain ⟨z0, z1, z2, z3, z4⟩ := T4.out.five
    obtain ⟨y0, y1, y2, y3, y4⟩ := T5.out.five
    have f0 := T4.out.frozen 0; have f1 := T4.out.frozen 1; have f2 := T4.out.frozen 2; have f3 := T4.out.frozen 3; have f4 := T4.out.frozen 4
    have g0 := T5.out.frozen 0; have g1 := T5.out.frozen 1; have g2 := T5.out.frozen 2; have g3 := T5.out.frozen 3; have g4 := T5.out.frozen 4
    have rs := ((T4.out.setAll [.string re, .string ke, .int .i64 life, .int .i64 (iss + 1), .slice (some ⟨gb, 0, none⟩) (en + 1) gc] rfl).setCellsOther (p := (w.heap.size + 1 + 1)) (by omega) [.string re, .string tx, .string ⟨#[]⟩, .bool true, .bool false] 0).drew
    have rt := (Row.setAll (T5.out.setCellsOther (p := (w.heap.size + 1)) (by omega) [.string re, .string ke, .int .i64 life, .int .i64 (iss + 1), .slice (some ⟨gb, 0, none⟩) (en + 1) gc] 0) [.string re, .string tx, .string ⟨#[]⟩, .bool true, .bool false] rfl).drew
    have bs2 := (below_setCells (by omega : w.heap.size ≤ (w.heap.size + 1 + 1)) [.string re, .string tx, .string ⟨#[]⟩, .bool true, .bool false] 0 _ (below_setCells (by omega : w.heap.size ≤ (w.heap.size + 1)) [.string re, .string ke, .int .i64 life, .int .i64 (iss + 1), .slice (some ⟨gb, 0, none⟩) (en + 1) gc] 0 _ TB.out)).drew
    have rx := rds_two (b4 := (w.heap.size + 1)) (b5 := (w.heap.size + 1 + 1)) [.string re, .string ke, .int .i64 life, .int .i64 (iss + 1), .slice (some ⟨gb, 0, none⟩) (en + 1) gc] [.string re, .string tx, .string ⟨#[]⟩, .bool true, .bool false] TX.out (fun b o s e => by injection e with e; injection e with e1; have := G4.out; omega) (fun b o s e => by injection e with e; injection e with e1; have := G4.out; omega)
    simp only [World.setCells, Nat.zero_add, Nat.reduceAdd] at rs rt bs2 rx
    have RS := Lib.hid rs; have RT := Lib.hid rt; have BS := Lib.hid bs2; have RX := Lib.hid rx
    clear rs rt bs2 rx T2 T4 T5 TB TX
    go_region
    all_goals
      go_wp2_with fail
      exact bodyPost_ret (results_cct rfl _ _ _ (w.heap.size + 1) (w.heap.size + 1 + 1) [.string re, .string ke, .int .i64 life, .int .i64 (iss + 1), .slice (some ⟨gb, 0, none⟩) (en + 1) gc] [.string re, .string tx, .string ⟨#[]⟩, .bool true, .bool false] _ _ rfl (by exact RS.out.range) Tryz.underlying49 rfl (sizeG _ _ _ _ _) rfl (by exact RT.out.range) Tryz.underlying36 rfl sizeCh5) rfl (by exact IssP.of E.out BS.out hLd.out (by simp) (fun b o s e => by injection e with e; injection e with e1; have := G4.out; omega) RX.out)
end Go.Proofs.YtfhbpgickkibmaaGreatDoor
namespace Go.Proofs.YtfhbpgickkibmaaGreatDoor
open Go.RowKit

set_option maxRecDepth 100000 in
set_option maxHeartbeats 2000000 in
theorem refissue_any (re ke : ByteArray) (life iss now : Int) (Ea : Option Addr) (en ec : Nat) (l : List Nce) (w : World)
    (hE : Rds w w.heap.size Ea (ncs l)) (hen : l.length = en) (henN : en ≤ 2000000) (s1 : re.size ≤ 4000000) (s2 : ke.size ≤ 4000000) (hnil : Ea = none → en = 0 ∧ ec = 0) :
    Calls Tryz.prog 29 #[.agg #[.string re, .string ke, .int .i64 life, .int .i64 iss, .slice Ea en ec], .int .i64 now] w (IssP (issL re ke life iss now l) w) := by
  have VB := Lib.hid (fun h => issL_bad (re := re) (ke := ke) (life := life) (iss := iss) (now := now) (l := l) h)
  have VY := Lib.hid (fun h => issL_ok (re := re) (ke := ke) (life := life) (iss := iss) (now := now) (l := l) h)
  have BV := Lib.hid (show badI re ke life iss now l = (!validG (byteL re) (byteL ke) life iss l || (iss == 2147483647 || (decide (now < 0) || decide (1099511627776 < now)))) from rfl)
  have BOK := Lib.hid (fun h => badI_ok (re := re) (ke := ke) (life := life) (iss := iss) (now := now) (l := l) h)
  generalize issL re ke life iss now l = V at *
  have HEN := Lib.hid hen
  have HNIL := Lib.hid hnil
  have S1 : (w.alloc (.cells #[.string re, .string ke, .int .i64 life, .int .i64 iss, .slice Ea en ec] 49)).heap.size = w.heap.size + 1 := World.size_alloc _ _
  have S2 : ((w.alloc (.cells #[.string re, .string ke, .int .i64 life, .int .i64 iss, .slice Ea en ec] 49)).alloc (.cells #[.string ⟨#[]⟩, .string ⟨#[]⟩, .int .i64 0, .int .i64 0, .slice none 0 0] 49)).heap.size = w.heap.size + 1 + 1 := by rw [World.size_alloc, S1]
  have R2 := Lib.hid (show Row (((w.alloc (.cells #[.string re, .string ke, .int .i64 life, .int .i64 iss, .slice Ea en ec] 49)).alloc (.cells #[.string ⟨#[]⟩, .string ⟨#[]⟩, .int .i64 0, .int .i64 0, .slice none 0 0] 49)).alloc (.cells #[.string ⟨#[]⟩, .string ⟨#[]⟩, .string ⟨#[]⟩, .bool false, .bool false] 36)) w.heap.size 49 [.string re, .string ke, .int .i64 life, .int .i64 iss, .slice Ea en ec] from ((Row.new w 49 [.string re, .string ke, .int .i64 life, .int .i64 iss, .slice Ea en ec]).alloc _).alloc _)
  have R4 := Lib.hid (show Row (((w.alloc (.cells #[.string re, .string ke, .int .i64 life, .int .i64 iss, .slice Ea en ec] 49)).alloc (.cells #[.string ⟨#[]⟩, .string ⟨#[]⟩, .int .i64 0, .int .i64 0, .slice none 0 0] 49)).alloc (.cells #[.string ⟨#[]⟩, .string ⟨#[]⟩, .string ⟨#[]⟩, .bool false, .bool false] 36)) (w.heap.size + 1) 49 [.string ⟨#[]⟩, .string ⟨#[]⟩, .int .i64 0, .int .i64 0, .slice none 0 0] by
    have h := Row.new (w.alloc (.cells #[.string re, .string ke, .int .i64 life, .int .i64 iss, .slice Ea en ec] 49)) 49 [.string ⟨#[]⟩, .string ⟨#[]⟩, .int .i64 0, .int .i64 0, .slice none 0 0]
    rw [S1] at h
    exact h.alloc _)
  have R5 := Lib.hid (show Row (((w.alloc (.cells #[.string re, .string ke, .int .i64 life, .int .i64 iss, .slice Ea en ec] 49)).alloc (.cells #[.string ⟨#[]⟩, .string ⟨#[]⟩, .int .i64 0, .int .i64 0, .slice none 0 0] 49)).alloc (.cells #[.string ⟨#[]⟩, .string ⟨#[]⟩, .string ⟨#[]⟩, .bool false, .bool false] 36)) (w.heap.size + 1 + 1) 36 [.string ⟨#[]⟩, .string ⟨#[]⟩, .string ⟨#[]⟩, .bool false, .bool false] by
    have h := Row.new ((w.alloc (.cells #[.string re, .string ke, .int .i64 life, .int .i64 iss, .slice Ea en ec] 49)).alloc (.cells #[.string ⟨#[]⟩, .string ⟨#[]⟩, .int .i64 0, .int .i64 0, .slice none 0 0] 49)) 36 [.string ⟨#[]⟩, .string ⟨#[]⟩, .string ⟨#[]⟩, .bool false, .bool false]
    rw [S2] at h
    exact h)
  have BQ := Lib.hid (show Below w.heap.size w (((w.alloc (.cells #[.string re, .string ke, .int .i64 life, .int .i64 iss, .slice Ea en ec] 49)).alloc (.cells #[.string ⟨#[]⟩, .string ⟨#[]⟩, .int .i64 0, .int .i64 0, .slice none 0 0] 49)).alloc (.cells #[.string ⟨#[]⟩, .string ⟨#[]⟩, .string ⟨#[]⟩, .bool false, .bool false] 36)) from (((Below.refl _ _).alloc (Nat.le_refl _) _).alloc (by rw [S1]; omega) _).alloc (by rw [S2]; omega) _)
  clear S1 S2
  have RV := Lib.hid (fun (X : World) (b : Below w.heap.size w X) => refvalid_any re ke life iss Ea en ec l X hen ((hE.below b).up b.size) (by omega) s1 s2)
  have HE0 := Lib.hid hE
  clear hE hen hnil
  generalize hVG : validG (byteL re) (byteL ke) life iss l = vg at *
  clear hVG
  go_enter Tryz.func29, Tryz.ntmps29
  go_wp2_with (with_reducible refine wpList_loadR rfl 49 (.tmp 2) rfl R2.out rfl Tryz.underlying49 rfl (sizeG _ _ _ _ _) ?_)
  generalize (((w.alloc (.cells #[.string re, .string ke, .int .i64 life, .int .i64 iss, .slice Ea en ec] 49)).alloc (.cells #[.string ⟨#[]⟩, .string ⟨#[]⟩, .int .i64 0, .int .i64 0, .slice none 0 0] 49)).alloc (.cells #[.string ⟨#[]⟩, .string ⟨#[]⟩, .string ⟨#[]⟩, .bool false, .bool false] 36)) = W at *
  refine (RV.out W BQ.out).mono ?_
  rintro e w1 ⟨rfl, hb1⟩
  have R2' := Lib.hid (R2.out.below hb1); have R4' := Lib.hid (R4.out.below hb1); have R5' := Lib.hid (R5.out.below hb1); have BQ' := Lib.hid (bthen BQ.out hb1)
  clear hb1 R2 R4 R5 BQ RV
  have R2 := R2'; have R4 := R4'; have R5 := R5'; have BQ := BQ'
  clear R2' R4' R5' BQ'
  have c3 : w1.cell? ⟨w.heap.size, 3, none⟩ = some (.int .i64 iss) := R2.out.cell 3
  cases vg with
  | false =>
    have E := Lib.hid (VB.out (by rw [BV.out]; rfl))
    clear c3
    go_wp2_with (with_reducible refine wpList_storeR rfl 49 (.tmp 4) (.tmp 25) rfl R4.out [.string ⟨#[]⟩, .string ⟨#[]⟩, .int .i64 0, .int .i64 0, .slice none 0 0] rfl rfl (lenG _ _ _ _ _ _ _ _ _ _) (sizeG _ _ _ _ _) (g_one _ _ _ _ _ _ _) BQ.out (by omega) ?_)
    intro w8 R9 B9 H9
    have R5' := Lib.hid (show Row w8 (w.heap.size + 1 + 1) 36 [.string ⟨#[]⟩, .string ⟨#[]⟩, .string ⟨#[]⟩, .bool false, .bool false] from (H9.out.2 _ (by omega)).trans R5.out)
    go_wp2_with (with_reducible refine wpList_storeR rfl 36 (.tmp 5) (.tmp 26) rfl R5'.out [.string ⟨#[]⟩, .string ⟨#[]⟩, .string ⟨#[]⟩, .bool false, .bool false] rfl rfl (lenG _ _ _ _ _ _ _ _ _ _) (sizeCh _ _ _ _ _) (ch_one _ _ _ _ _) B9.out (by omega) ?_)
    intro w9 RA BA HA
    have RB := Lib.hid (show Row w9 (w.heap.size + 1) 49 [.string ⟨#[]⟩, .string ⟨#[]⟩, .int .i64 0, .int .i64 0, .slice none 0 0] from (HA.out.2 _ (by omega)).trans R9.out)
    go_wp2_with fail
    exact bodyPost_ret (results_cct rfl _ _ _ (w.heap.size + 1) (w.heap.size + 1 + 1) [.string ⟨#[]⟩, .string ⟨#[]⟩, .int .i64 0, .int .i64 0, .slice none 0 0] [.string ⟨#[]⟩, .string ⟨#[]⟩, .string ⟨#[]⟩, .bool false, .bool false] _ _ rfl RB.out.range Tryz.underlying49 rfl sizeG3 rfl RA.out.range Tryz.underlying36 rfl sizeCh5) rfl (by exact IssP.zero E.out BA.out)
  | true =>
  by_cases k0 : iss = 2147483647
  · have d0 : (iss == 2147483647) = true := by simp [k0]
    have E0 := Lib.hid (show badI re ke life iss now l = true by rw [BV.out, d0]; rfl)
    subst k0
    have E := Lib.hid (VB.out (by exact E0.out))
    go_wp2_with (with_reducible refine wpList_storeR rfl 49 (.tmp 4) (.tmp 25) rfl R4.out [.string ⟨#[]⟩, .string ⟨#[]⟩, .int .i64 0, .int .i64 0, .slice none 0 0] rfl rfl (lenG _ _ _ _ _ _ _ _ _ _) (sizeG _ _ _ _ _) (g_one _ _ _ _ _ _ _) BQ.out (by omega) ?_)
    intro w8 R9 B9 H9
    have R5' := Lib.hid (show Row w8 (w.heap.size + 1 + 1) 36 [.string ⟨#[]⟩, .string ⟨#[]⟩, .string ⟨#[]⟩, .bool false, .bool false] from (H9.out.2 _ (by omega)).trans R5.out)
    go_wp2_with (with_reducible refine wpList_storeR rfl 36 (.tmp 5) (.tmp 26) rfl R5'.out [.string ⟨#[]⟩, .string ⟨#[]⟩, .string ⟨#[]⟩, .bool false, .bool false] rfl rfl (lenG _ _ _ _ _ _ _ _ _ _) (sizeCh _ _ _ _ _) (ch_one _ _ _ _ _) B9.out (by omega) ?_)
    intro w9 RA BA HA
    have RB := Lib.hid (show Row w9 (w.heap.size + 1) 49 [.string ⟨#[]⟩, .string ⟨#[]⟩, .int .i64 0, .int .i64 0, .slice none 0 0] from (HA.out.2 _ (by omega)).trans R9.out)
    go_wp2_with fail
    exact bodyPost_ret (results_cct rfl _ _ _ (w.heap.size + 1) (w.heap.size + 1 + 1) [.string ⟨#[]⟩, .string ⟨#[]⟩, .int .i64 0, .int .i64 0, .slice none 0 0] [.string ⟨#[]⟩, .string ⟨#[]⟩, .string ⟨#[]⟩, .bool false, .bool false] _ _ rfl RB.out.range Tryz.underlying49 rfl sizeG3 rfl RA.out.range Tryz.underlying36 rfl sizeCh5) rfl (by exact IssP.zero E.out BA.out)
  have d0 : (iss == 2147483647) = false := by simp [k0]
  have d0' : decide (iss = 2147483647) = false := by simp [k0]
  by_cases k1 : now < 0
  · have d1 : decide (now < 0) = true := by simp [k1]
    clear k0 k1
    have E := Lib.hid (VB.out (by rw [BV.out, d0, d1]; rfl))
    go_wp2_with (with_reducible refine wpList_storeR rfl 49 (.tmp 4) (.tmp 25) rfl R4.out [.string ⟨#[]⟩, .string ⟨#[]⟩, .int .i64 0, .int .i64 0, .slice none 0 0] rfl rfl (lenG _ _ _ _ _ _ _ _ _ _) (sizeG _ _ _ _ _) (g_one _ _ _ _ _ _ _) BQ.out (by omega) ?_)
    intro w8 R9 B9 H9
    have R5' := Lib.hid (show Row w8 (w.heap.size + 1 + 1) 36 [.string ⟨#[]⟩, .string ⟨#[]⟩, .string ⟨#[]⟩, .bool false, .bool false] from (H9.out.2 _ (by omega)).trans R5.out)
    go_wp2_with (with_reducible refine wpList_storeR rfl 36 (.tmp 5) (.tmp 26) rfl R5'.out [.string ⟨#[]⟩, .string ⟨#[]⟩, .string ⟨#[]⟩, .bool false, .bool false] rfl rfl (lenG _ _ _ _ _ _ _ _ _ _) (sizeCh _ _ _ _ _) (ch_one _ _ _ _ _) B9.out (by omega) ?_)
    intro w9 RA BA HA
    have RB := Lib.hid (show Row w9 (w.heap.size + 1) 49 [.string ⟨#[]⟩, .string ⟨#[]⟩, .int .i64 0, .int .i64 0, .slice none 0 0] from (HA.out.2 _ (by omega)).trans R9.out)
    go_wp2_with fail
    exact bodyPost_ret (results_cct rfl _ _ _ (w.heap.size + 1) (w.heap.size + 1 + 1) [.string ⟨#[]⟩, .string ⟨#[]⟩, .int .i64 0, .int .i64 0, .slice none 0 0] [.string ⟨#[]⟩, .string ⟨#[]⟩, .string ⟨#[]⟩, .bool false, .bool false] _ _ rfl RB.out.range Tryz.underlying49 rfl sizeG3 rfl RA.out.range Tryz.underlying36 rfl sizeCh5) rfl (by exact IssP.zero E.out BA.out)
  have d1 : decide (now < 0) = false := by simp; omega
  by_cases k2 : 1099511627776 < now
  · have d2 : decide (1099511627776 < now) = true := by simp [k2]
    clear k0 k1 k2
    have E := Lib.hid (VB.out (by rw [BV.out, d0, d1, d2]; rfl))
    go_wp2_with (with_reducible refine wpList_storeR rfl 49 (.tmp 4) (.tmp 25) rfl R4.out [.string ⟨#[]⟩, .string ⟨#[]⟩, .int .i64 0, .int .i64 0, .slice none 0 0] rfl rfl (lenG _ _ _ _ _ _ _ _ _ _) (sizeG _ _ _ _ _) (g_one _ _ _ _ _ _ _) BQ.out (by omega) ?_)
    intro w8 R9 B9 H9
    have R5' := Lib.hid (show Row w8 (w.heap.size + 1 + 1) 36 [.string ⟨#[]⟩, .string ⟨#[]⟩, .string ⟨#[]⟩, .bool false, .bool false] from (H9.out.2 _ (by omega)).trans R5.out)
    go_wp2_with (with_reducible refine wpList_storeR rfl 36 (.tmp 5) (.tmp 26) rfl R5'.out [.string ⟨#[]⟩, .string ⟨#[]⟩, .string ⟨#[]⟩, .bool false, .bool false] rfl rfl (lenG _ _ _ _ _ _ _ _ _ _) (sizeCh _ _ _ _ _) (ch_one _ _ _ _ _) B9.out (by omega) ?_)
    intro w9 RA BA HA
    have RB := Lib.hid (show Row w9 (w.heap.size + 1) 49 [.string ⟨#[]⟩, .string ⟨#[]⟩, .int .i64 0, .int .i64 0, .slice none 0 0] from (HA.out.2 _ (by omega)).trans R9.out)
    go_wp2_with fail
    exact bodyPost_ret (results_cct rfl _ _ _ (w.heap.size + 1) (w.heap.size + 1 + 1) [.string ⟨#[]⟩, .string ⟨#[]⟩, .int .i64 0, .int .i64 0, .slice none 0 0] [.string ⟨#[]⟩, .string ⟨#[]⟩, .string ⟨#[]⟩, .bool false, .bool false] _ _ rfl RB.out.range Tryz.underlying49 rfl sizeG3 rfl RA.out.range Tryz.underlying36 rfl sizeCh5) rfl (by exact IssP.zero E.out BA.out)
  have d2 : decide (1099511627776 < now) = false := by simp; omega
  have NB := Lib.hid (show badI re ke life iss now l = false by rw [BV.out, d0, d1, d2]; rfl)
  obtain ⟨b1, b2, b3⟩ := BOK.out NB.out
  have E := Lib.hid (VY.out NB.out)
  rw [HEN.out] at b1
  clear BV VB VY BOK k0
  go_wp2_with fail
  clear d0 d0' d1 d2 c3
  have q1 := fun x : BW w1 => R2.out.later x 1
  have q3 := fun x : BW w1 => R2.out.later x 3
  simp only [List.getElem?_cons_succ, List.getElem?_cons_zero] at q1 q3
  have LI := decL_len (n := iss) b2 (by omega); have LN := decL_len (n := now) (by omega) (by omega)
  have h8 : (strOfNums (decL iss)).size ≤ 21 := by rw [num_size]; exact LI
  have h9 : (strOfNums (decL now)).size ≤ 21 := by rw [num_size]; exact LN
  have o8 : (⟨#[58]⟩ : ByteArray).size ≤ 1 := Nat.le_refl _
  obtain ⟨u1, y1, a1, U1⟩ := cat_name ke ⟨#[58]⟩ (ke.size + 1) (by omega) (by omega)
  obtain ⟨u2, y2, a2, U2⟩ := cat_name u1 (strOfNums (decL iss)) (ke.size + 1 + 21) (by omega) (by omega)
  obtain ⟨u3, y3, a3, U3⟩ := cat_name u2 ⟨#[58]⟩ (ke.size + 1 + 21 + 1) (by omega) (by omega)
  obtain ⟨u4, y4, a4, U4⟩ := cat_name u3 (strOfNums (decL now)) (ke.size + 1 + 21 + 1 + 21) (by omega) (by omega)
  have V4 := Lib.hid (show textH (byteL u4) = hashL [byteL ke, decL iss, decL now] by
    rw [U4.out, U3.out, U2.out, U1.out, byteL_str (decL_by iss), byteL_str (decL_by now)]
    unfold hashL
    rw [joinL_cons, joinL_cons, joinL_one]
    simp [show byteL ⟨#[58]⟩ = [58] from rfl])
  have y4' : u4.size ≤ 16000000 := by omega
  have DI := Lib.hid (fun (X : World) => by have h := decimal_any iss.toNat X (by omega); rwa [Int.toNat_of_nonneg b2] at h)
  have DN := Lib.hid (fun (X : World) => by have h := decimal_any now.toNat X (by omega); rwa [Int.toNat_of_nonneg (by omega)] at h)
  clear LI LN U1 U2 U3 U4 y1 y2 y3 y4 h8 h9 o8
  refine region_bw (by kernel_rfl) (by kernel_rfl) ?_
  iterate 5 go_big_quiet_step (fail)
  go_big_quiet_step (exact calls_bw (DI.out _))
  iterate 3 go_big_quiet_step (fail)
  go_big_quiet_step (exact calls_bw (DN.out _))
  go_big_quiet_step (fail)
  go_big_quiet_step (exact calls_bw (refhashs_any _ _ _ _ y4' rfl V4.out))
  go_big_quiet_step (fail)
  refine wpQuiet_nil ?_
  rintro _ ⟨x, rfl⟩
  obtain ⟨w2, hx⟩ : ∃ w2, w2 = x.w := ⟨_, rfl⟩
  have BX := Lib.hid (show Below w1.heap.size w1 w2 by rw [hx]; exact x.h)
  rw [← hx]
  clear hx x q1 q3 a1 a2 a3 a4 DI DN V4 y4'
  have R2' := Lib.hid (R2.out.below BX.out); have R4' := Lib.hid (R4.out.below BX.out); have R5' := Lib.hid (R5.out.below BX.out); have BQ' := Lib.hid (bthen BQ.out BX.out)
  clear R2 R4 R5 BQ
  have R2 := R2'; have R4 := R4'; have R5 := R5'; have BQ := BQ'
  clear R2' R4' R5' BQ'
  clear BX
  rw [show strOfNums (hashL [byteL ke, decL iss, decL now]) = txtI ke iss now from rfl]
  generalize txtI ke iss now = tx at *

  have e4 : w2.cell? ⟨w.heap.size, 4, none⟩ = some (.slice Ea en ec) := R2.out.cell 4
  have HEt := Lib.hid ((HE0.out.below BQ.out).up BQ.out.size)
  go_wp2_with (with_reducible refine wpList_spreadN rfl (.tmp 39) (.tmp 41) rfl rfl Ea en ec l HEN.out rfl HEt.out HNIL.out henN ?_)
  intro v w3 V3
  clear e4 HEt HE0 HNIL
  go_wp2_with (with_reducible refine wpList_pushN rfl (.tmp 43) (.tmp 47) rfl v en l HEN.out rfl V3.out ⟨tx, now, 0⟩ rfl (by omega) ?_)
  intro v4 w4 V4
  have BX := Lib.hid (show Below w2.heap.size w2 w4 from V4.out.bw)
  have BX0 := Lib.hid R5.out.lt
  have R2' := Lib.hid (R2.out.below BX.out); have R4' := Lib.hid (R4.out.below BX.out); have R5' := Lib.hid (R5.out.below BX.out); have BQ' := Lib.hid (bthen BQ.out BX.out)
  clear R2 R4 R5 BQ
  have R2 := R2'; have R4 := R4'; have R5 := R5'; have BQ := BQ'
  clear R2' R4' R5' BQ'
  have HL := Lib.hid (show (l ++ [(⟨tx, now, 0⟩ : Nce)]).length = en + 1 by simp [HEN.out])
  have HNX := Lib.hid (show nextN l ⟨tx, now, 0⟩ = if 64 < en + 1 then (l ++ [(⟨tx, now, 0⟩ : Nce)]).drop 1 else l ++ [(⟨tx, now, 0⟩ : Nce)] by unfold nextN; rw [HEN.out])
  generalize nextN l ⟨tx, now, 0⟩ = NX at *
  generalize l ++ [(⟨tx, now, 0⟩ : Nce)] = L at *
  rcases V4.out.form with ⟨_, h0, _⟩ | ⟨gb, gc, rfl, hgc, hgb, hgl, hcell⟩
  · omega
  have RL := Lib.hid (show Rds w4 w4.heap.size (some ⟨gb, 0, none⟩) (ncs L) from fun _ => ⟨gb, 0, rfl, hgl, fun j u hu => by rw [Nat.zero_add]; exact hcell j u hu⟩)
  have GB := Lib.hid (show w.heap.size < gb by have := BX0.out; omega)
  have G4 := Lib.hid (show w.heap.size + 1 + 1 < gb by have := BX0.out; omega)
  clear hcell V4 hgl hgb BX BX0
  have hiw : IntKind.i64.wrap (iss + 1) = iss + 1 := IntWalk.i64_in _ (by omega)
  by_cases k9 : 64 < en + 1
  · obtain rfl : en = 64 := by omega
    have d9 : decide ((64 : Int) < ((64 : Nat) : Int) + 1) = true := by decide
    have hE9 := Lib.hid (show NX = L.drop 1 by rw [HNX.out]; exact if_pos k9)
    have hLd := Lib.hid (show NX.length = 64 by rw [hE9.out, List.length_drop, HL.out])
    have RX := Lib.hid (show Rds w4 w4.heap.size (some ⟨gb, 3, none⟩) (ncs NX) by
      rw [hE9.out]
      have h := RL.out.rest (by rw [HL.out]; omega)
      rwa [Nat.zero_add] at h)
    clear RL HNX hE9 HL
    have e4 : w4.cell? ⟨w.heap.size, 4, none⟩ = some (.slice Ea 64 ec) := R2.out.cell 4
    have e3 : w4.cell? ⟨w.heap.size, 3, none⟩ = some (.int .i64 iss) := R2.out.cell 3
    have f4 := R2.out.frozen 4; have f3 := R2.out.frozen 3
    have T2 := Lib.hid (show Row ((w4.setCell ⟨w.heap.size, 4, none⟩ (.slice (some ⟨gb, 3, none⟩) 64 (gc - 1))).setCell ⟨w.heap.size, 3, none⟩ (.int .i64 (iss + 1))) w.heap.size 49 [.string re, .string ke, .int .i64 life, .int .i64 (iss + 1), .slice (some ⟨gb, 3, none⟩) 64 (gc - 1)] from (R2.out.set 4 _).set 3 _)
    have T4 := Lib.hid (show Row ((w4.setCell ⟨w.heap.size, 4, none⟩ (.slice (some ⟨gb, 3, none⟩) 64 (gc - 1))).setCell ⟨w.heap.size, 3, none⟩ (.int .i64 (iss + 1))) (w.heap.size + 1) 49 [.string ⟨#[]⟩, .string ⟨#[]⟩, .int .i64 0, .int .i64 0, .slice none 0 0] from (R4.out.setOther (by omega) _).setOther (by omega) _)
    have T5 := Lib.hid (show Row ((w4.setCell ⟨w.heap.size, 4, none⟩ (.slice (some ⟨gb, 3, none⟩) 64 (gc - 1))).setCell ⟨w.heap.size, 3, none⟩ (.int .i64 (iss + 1))) (w.heap.size + 1 + 1) 36 [.string ⟨#[]⟩, .string ⟨#[]⟩, .string ⟨#[]⟩, .bool false, .bool false] from (R5.out.setOther (by omega) _).setOther (by omega) _)
    have TB := Lib.hid (show Below w.heap.size w ((w4.setCell ⟨w.heap.size, 4, none⟩ (.slice (some ⟨gb, 3, none⟩) 64 (gc - 1))).setCell ⟨w.heap.size, 3, none⟩ (.int .i64 (iss + 1))) from (BQ.out.setCell (Nat.le_refl _) _).setCell (Nat.le_refl _) _)
    have TX := Lib.hid (show Rds ((w4.setCell ⟨w.heap.size, 4, none⟩ (.slice (some ⟨gb, 3, none⟩) 64 (gc - 1))).setCell ⟨w.heap.size, 3, none⟩ (.int .i64 (iss + 1))) ((w4.setCell ⟨w.heap.size, 4, none⟩ (.slice (some ⟨gb, 3, none⟩) 64 (gc - 1))).setCell ⟨w.heap.size, 3, none⟩ (.int .i64 (iss + 1))).heap.size (some ⟨gb, 3, none⟩) (ncs NX) from RX.out.heapS (x := w.heap.size) (fun b o s e => by injection e with e; injection e with e1; have := GB.out; omega) (by simp [World.setCell]) (fun b' hb' => (Below.heap_setCell _ _ _ b' hb').trans (Below.heap_setCell _ _ _ b' hb')))
    clear R2 R4 R5 BQ RX
    have hg1 : decide (gc = 1) = false := by simp; omega
    go_wp2_with fail
    clear e4 e3 f4 f3 d9 hiw
    generalize ((w4.setCell ⟨w.heap.size, 4, none⟩ (.slice (some ⟨gb, 3, none⟩) 64 (gc - 1))).setCell ⟨w.heap.size, 3, none⟩ (.int .i64 (iss + 1))) = wv at *
    obtain ⟨k0', k1', k2', k3', k4'⟩ := T2.out.five
    obtain ⟨z0, z1, z2, z3, z4⟩ := T4.out.five
    obtain ⟨y0, y1, y2, y3, y4⟩ := T5.out.five
    have f0 := T4.out.frozen 0; have f1 := T4.out.frozen 1; have f2 := T4.out.frozen 2; have f3 := T4.out.frozen 3; have f4 := T4.out.frozen 4
    have g0 := T5.out.frozen 0; have g1 := T5.out.frozen 1; have g2 := T5.out.frozen 2; have g3 := T5.out.frozen 3; have g4 := T5.out.frozen 4
    have rs := ((T4.out.setAll [.string re, .string ke, .int .i64 life, .int .i64 (iss + 1), .slice (some ⟨gb, 3, none⟩) 64 (gc - 1)] rfl).setCellsOther (p := (w.heap.size + 1 + 1)) (by omega) [.string re, .string tx, .string ⟨#[]⟩, .bool true, .bool false] 0).drew
    have rt := (Row.setAll (T5.out.setCellsOther (p := (w.heap.size + 1)) (by omega) [.string re, .string ke, .int .i64 life, .int .i64 (iss + 1), .slice (some ⟨gb, 3, none⟩) 64 (gc - 1)] 0) [.string re, .string tx, .string ⟨#[]⟩, .bool true, .bool false] rfl).drew
    have bs2 := (below_setCells (by omega : w.heap.size ≤ (w.heap.size + 1 + 1)) [.string re, .string tx, .string ⟨#[]⟩, .bool true, .bool false] 0 _ (below_setCells (by omega : w.heap.size ≤ (w.heap.size + 1)) [.string re, .string ke, .int .i64 life, .int .i64 (iss + 1), .slice (some ⟨gb, 3, none⟩) 64 (gc - 1)] 0 _ TB.out)).drew
    have rx := rds_two (b4 := (w.heap.size + 1)) (b5 := (w.heap.size + 1 + 1)) [.string re, .string ke, .int .i64 life, .int .i64 (iss + 1), .slice (some ⟨gb, 3, none⟩) 64 (gc - 1)] [.string re, .string tx, .string ⟨#[]⟩, .bool true, .bool false] TX.out (fun b o s e => by injection e with e; injection e with e1; have := G4.out; omega) (fun b o s e => by injection e with e; injection e with e1; have := G4.out; omega)
    simp only [World.setCells, Nat.zero_add, Nat.reduceAdd] at rs rt bs2 rx
    have RS := Lib.hid rs; have RT := Lib.hid rt; have BS := Lib.hid bs2; have RX := Lib.hid rx
    clear rs rt bs2 rx T2 T4 T5 TB TX
    go_region
    all_goals
      go_wp2_with fail
      exact bodyPost_ret (results_cct rfl _ _ _ (w.heap.size + 1) (w.heap.size + 1 + 1) [.string re, .string ke, .int .i64 life, .int .i64 (iss + 1), .slice (some ⟨gb, 3, none⟩) 64 (gc - 1)] [.string re, .string tx, .string ⟨#[]⟩, .bool true, .bool false] _ _ rfl (by exact RS.out.range) Tryz.underlying49 rfl (sizeG _ _ _ _ _) rfl (by exact RT.out.range) Tryz.underlying36 rfl sizeCh5) rfl (by exact IssP.of E.out BS.out hLd.out (by simp) (fun b o s e => by injection e with e; injection e with e1; have := G4.out; omega) RX.out)
  · have d9 : decide ((64 : Int) < (en : Int) + 1) = false := by simp; omega
    have hE9 := Lib.hid (show NX = L by rw [HNX.out]; exact if_neg k9)
    have hLd := Lib.hid (show NX.length = en + 1 by rw [hE9.out, HL.out])
    have RX := Lib.hid (show Rds w4 w4.heap.size (some ⟨gb, 0, none⟩) (ncs NX) by
      rw [hE9.out]
      exact RL.out)
    clear RL HNX hE9 HL
    have e4 : w4.cell? ⟨w.heap.size, 4, none⟩ = some (.slice Ea en ec) := R2.out.cell 4
    have e3 : w4.cell? ⟨w.heap.size, 3, none⟩ = some (.int .i64 iss) := R2.out.cell 3
    have f4 := R2.out.frozen 4; have f3 := R2.out.frozen 3
    have T2 := Lib.hid (show Row ((w4.setCell ⟨w.heap.size, 4, none⟩ (.slice (some ⟨gb, 0, none⟩) (en + 1) gc)).setCell ⟨w.heap.size, 3, none⟩ (.int .i64 (iss + 1))) w.heap.size 49 [.string re, .string ke, .int .i64 life, .int .i64 (iss + 1), .slice (some ⟨gb, 0, none⟩) (en + 1) gc] from (R2.out.set 4 _).set 3 _)
    have T4 := Lib.hid (show Row ((w4.setCell ⟨w.heap.size, 4, none⟩ (.slice (some ⟨gb, 0, none⟩) (en + 1) gc)).setCell ⟨w.heap.size, 3, none⟩ (.int .i64 (iss + 1))) (w.heap.size + 1) 49 [.string ⟨#[]⟩, .string ⟨#[]⟩, .int .i64 0, .int .i64 0, .slice none 0 0] from (R4.out.setOther (by omega) _).setOther (by omega) _)
    have T5 := Lib.hid (show Row ((w4.setCell ⟨w.heap.size, 4, none⟩ (.slice (some ⟨gb, 0, none⟩) (en + 1) gc)).setCell ⟨w.heap.size, 3, none⟩ (.int .i64 (iss + 1))) (w.heap.size + 1 + 1) 36 [.string ⟨#[]⟩, .string ⟨#[]⟩, .string ⟨#[]⟩, .bool false, .bool false] from (R5.out.setOther (by omega) _).setOther (by omega) _)
    have TB := Lib.hid (show Below w.heap.size w ((w4.setCell ⟨w.heap.size, 4, none⟩ (.slice (some ⟨gb, 0, none⟩) (en + 1) gc)).setCell ⟨w.heap.size, 3, none⟩ (.int .i64 (iss + 1))) from (BQ.out.setCell (Nat.le_refl _) _).setCell (Nat.le_refl _) _)
    have TX := Lib.hid (show Rds ((w4.setCell ⟨w.heap.size, 4, none⟩ (.slice (some ⟨gb, 0, none⟩) (en + 1) gc)).setCell ⟨w.heap.size, 3, none⟩ (.int .i64 (iss + 1))) ((w4.setCell ⟨w.heap.size, 4, none⟩ (.slice (some ⟨gb, 0, none⟩) (en + 1) gc)).setCell ⟨w.heap.size, 3, none⟩ (.int .i64 (iss + 1))).heap.size (some ⟨gb, 0, none⟩) (ncs NX) from RX.out.heapS (x := w.heap.size) (fun b o s e => by injection e with e; injection e with e1; have := GB.out; omega) (by simp [World.setCell]) (fun b' hb' => (Below.heap_setCell _ _ _ b' hb').trans (Below.heap_setCell _ _ _ b' hb')))
    clear R2 R4 R5 BQ RX
    go_wp2_with fail
    clear e4 e3 f4 f3 d9 hiw
    generalize ((w4.setCell ⟨w.heap.size, 4, none⟩ (.slice (some ⟨gb, 0, none⟩) (en + 1) gc)).setCell ⟨w.heap.size, 3, none⟩ (.int .i64 (iss + 1))) = wv at *
    obtain ⟨k0', k1', k2', k3', k4'⟩ := T2.out.five
    obtain ⟨z0, z1, z2, z3, z4⟩ := T4.out.five
    obtain ⟨y0, y1, y2, y3, y4⟩ := T5.out.five
    have f0 := T4.out.frozen 0; have f1 := T4.out.frozen 1; have f2 := T4.out.frozen 2; have f3 := T4.out.frozen 3; have f4 := T4.out.frozen 4
    have g0 := T5.out.frozen 0; have g1 := T5.out.frozen 1; have g2 := T5.out.frozen 2; have g3 := T5.out.frozen 3; have g4 := T5.out.frozen 4
    have rs := ((T4.out.setAll [.string re, .string ke, .int .i64 life, .int .i64 (iss + 1), .slice (some ⟨gb, 0, none⟩) (en + 1) gc] rfl).setCellsOther (p := (w.heap.size + 1 + 1)) (by omega) [.string re, .string tx, .string ⟨#[]⟩, .bool true, .bool false] 0).drew
    have rt := (Row.setAll (T5.out.setCellsOther (p := (w.heap.size + 1)) (by omega) [.string re, .string ke, .int .i64 life, .int .i64 (iss + 1), .slice (some ⟨gb, 0, none⟩) (en + 1) gc] 0) [.string re, .string tx, .string ⟨#[]⟩, .bool true, .bool false] rfl).drew
    have bs2 := (below_setCells (by omega : w.heap.size ≤ (w.heap.size + 1 + 1)) [.string re, .string tx, .string ⟨#[]⟩, .bool true, .bool false] 0 _ (below_setCells (by omega : w.heap.size ≤ (w.heap.size + 1)) [.string re, .string ke, .int .i64 life, .int .i64 (iss + 1), .slice (some ⟨gb, 0, none⟩) (en + 1) gc] 0 _ TB.out)).drew
    have rx := rds_two (b4 := (w.heap.size + 1)) (b5 := (w.heap.size + 1 + 1)) [.string re, .string ke, .int .i64 life, .int .i64 (iss + 1), .slice (some ⟨gb, 0, none⟩) (en + 1) gc] [.string re, .string tx, .string ⟨#[]⟩, .bool true, .bool false] TX.out (fun b o s e => by injection e with e; injection e with e1; have := G4.out; omega) (fun b o s e => by injection e with e; injection e with e1; have := G4.out; omega)
    simp only [World.setCells, Nat.zero_add, Nat.reduceAdd] at rs rt bs2 rx
    have RS := Lib.hid rs; have RT := Lib.hid rt; have BS := Lib.hid bs2; have RX := Lib.hid rx
    clear rs rt bs2 rx T2 T4 T5 TB TX
    go_region
    all_goals
      go_wp2_with fail
      exact bodyPost_ret (results_cct rfl _ _ _ (w.heap.size + 1) (w.heap.size + 1 + 1) [.string re, .string ke, .int .i64 life, .int .i64 (iss + 1), .slice (some ⟨gb, 0, none⟩) (en + 1) gc] [.string re, .string tx, .string ⟨#[]⟩, .bool true, .bool false] _ _ rfl (by exact RS.out.range) Tryz.underlying49 rfl (sizeG _ _ _ _ _) rfl (by exact RT.out.range) Tryz.underlying36 rfl sizeCh5) rfl (by exact IssP.of E.out BS.out hLd.out (by simp) (fun b o s e => by injection e with e; injection e with e1; have := G4.out; omega) RX.out)
end Go.Proofs.YtfhbpgickkibmaaGreatDoor
namespace Go.Proofs.YtfhbpgickkibmaaGreatDoor
open Go.RowKit

theorem guardC (x y : Operand) (xs ys : Array Value) (w : World) : (eqGuard .eql 36 x y (.agg xs) (.agg ys)).run Tryz.prog w = .ok () w := run_eqGuard_agg w .eql _ x y xs ys (by kernel_rfl)
theorem sameC (a b c : ByteArray) (i s : Bool) (w : World) : (Op.equalIn 10000 36 (.agg #[.string a, .string b, .string c, .bool i, .bool s]) (.agg #[.string a, .string b, .string c, .bool i, .bool s])).run Tryz.prog w = .ok true w := by
  have u9 := Tryz.underlying9
  have a9 := Tryz.isAgg9
  have u3 := Tryz.underlying4
  have a3 := Tryz.isAgg4
  have hS : Tryz.prog.underlying 36 = some (.struct (Tryz.prog.fieldsOf 36)) := by kernel_rfl
  have hp : Tryz.prog.stoodInHeld 36 = false := by kernel_rfl
  rw [show (10000 : Nat) = 9999 + 1 from rfl, run_equalIn_agg w 9999 36 _ _ hS hp]
  simp only [Program.fieldsOf, Tryz.underlying36]
  go_simp
theorem nextN_len (l : List Nce) (x : Nce) : (nextN l x).length ≤ l.length + 1 := by
  unfold nextN
  split
  · simp
  · simp
theorem issL_len {re ke : ByteArray} {life iss now : Int} {l : List Nce} (h : l.length ≤ 15000000) : (issL re ke life iss now l).l.length ≤ 16000000 := by
  unfold issL
  split
  · exact Nat.zero_le _
  · dsimp only
    have := nextN_len l ⟨txtI ke iss now, now, 0⟩
    omega
set_option maxRecDepth 100000 in
set_option maxHeartbeats 4000000 in
theorem issues_any (re ke : ByteArray) (life iss now : Int) (Ea : Option Addr) (en ec : Nat) (l : List Nce) (w : World)
    (hE : Rds w w.heap.size Ea (ncs l)) (hen : l.length = en) (henN : en ≤ 1048576) (s1 : re.size ≤ 1048576) (s2 : ke.size ≤ 1048576) (hnil : Ea = none → en = 0 ∧ ec = 0) (hG : GM w) (hK : KC w) (hP : PT w) :
    Calls Tryz.prog 7 #[.agg #[.string re, .string ke, .int .i64 life, .int .i64 iss, .slice Ea en ec], .int .i64 now] w fun e w' => e = .returned (.bool true) ∧ Below w.heap.size w w' := by
  have AN := Lib.hid (fun (X : World) (b : Below w.heap.size w X) => issue_any re ke life iss now Ea en ec l X ((hE.below b).up b.size) hen (by omega) (by omega) (by omega) hnil (hK.below b) (hP.below b))
  have RN := Lib.hid (fun (X : World) (b : Below w.heap.size w X) => refissue_any re ke life iss now Ea en ec l X ((hE.below b).up b.size) hen (by omega) (by omega) (by omega) hnil)
  have VA := Lib.hid (fun (X : World) (b : Below w.heap.size w X) => valid_any re ke life iss Ea en ec l X hen ((hE.below b).up b.size) (by omega) (by omega) (by omega))
  have VR := Lib.hid (fun (X : World) (b : Below w.heap.size w X) => refvalid_any re ke life iss Ea en ec l X hen ((hE.below b).up b.size) (by omega) (by omega) (by omega))
  have hVl := issL_len (re := re) (ke := ke) (life := life) (iss := iss) (now := now) (l := l) (by omega)
  generalize issL re ke life iss now l = V at *
  generalize validG (byteL re) (byteL ke) life iss l = vg at *
  have HG := Lib.hid hG
  clear hnil hE hen hG hK hP
  have R2 := Lib.hid (Row.new w 49 [.string re, .string ke, .int .i64 life, .int .i64 iss, .slice Ea en ec])
  have B0 := Lib.hid ((Below.refl w.heap.size w).alloc (Nat.le_refl _) (.cells #[.string re, .string ke, .int .i64 life, .int .i64 iss, .slice Ea en ec] 49))
  have c1 : (w.alloc (.cells #[.string re, .string ke, .int .i64 life, .int .i64 iss, .slice Ea en ec] 49)).cell? ⟨w.heap.size, 1, none⟩ = some (.string ke) := R2.out.cell 1
  by_cases k0 : 3000 < ke.size
  · have d0 : decide ((3000 : Int) < (ke.size : Int)) = true := by simp; omega
    clear k0
    go_enter Tryz.func7, Tryz.ntmps7
    go_wp2_with fail
    refine (awake_any _ (HG.out.below B0.out)).mono ?_
    rintro e w2 ⟨rfl, hb2⟩
    have B2 := Lib.hid (bthen B0.out hb2)
    clear hb2
    go_wp2_with fail
    go_ret
    exact ⟨rfl, B2.out⟩
  have d0 : decide ((3000 : Int) < (ke.size : Int)) = false := by simp; omega
  clear k0
  go_enter Tryz.func7, Tryz.ntmps7
  go_wp2_with (with_reducible refine wpList_loadR rfl 49 (.tmp 2) rfl R2.out rfl Tryz.underlying49 rfl (sizeG _ _ _ _ _) ?_)
  clear c1 d0
  refine (AN.out _ B0.out).mono ?_
  rintro e X ⟨hbx, A1, c1, rfl, _, _, hA1⟩
  have R2' := Lib.hid (R2.out.below hbx)
  have BX := Lib.hid (bthen B0.out hbx)
  have HA1 := Lib.hid hA1
  clear hbx R2 B0 hA1
  have N5 := Lib.hid (show Row ((X.alloc (.cells #[.string ⟨#[]⟩, .string ⟨#[]⟩, .int .i64 0, .int .i64 0, .slice none 0 0] 49)).alloc (.cells #[.string ⟨#[]⟩, .string ⟨#[]⟩, .string ⟨#[]⟩, .bool false, .bool false] 36)) X.heap.size 49 [.string ⟨#[]⟩, .string ⟨#[]⟩, .int .i64 0, .int .i64 0, .slice none 0 0] from (Row.new X 49 [.string ⟨#[]⟩, .string ⟨#[]⟩, .int .i64 0, .int .i64 0, .slice none 0 0]).alloc _)
  have N6 := Lib.hid (show Row ((X.alloc (.cells #[.string ⟨#[]⟩, .string ⟨#[]⟩, .int .i64 0, .int .i64 0, .slice none 0 0] 49)).alloc (.cells #[.string ⟨#[]⟩, .string ⟨#[]⟩, .string ⟨#[]⟩, .bool false, .bool false] 36)) (X.heap.size + 1) 36 [.string ⟨#[]⟩, .string ⟨#[]⟩, .string ⟨#[]⟩, .bool false, .bool false] by
    have h := Row.new (X.alloc (.cells #[.string ⟨#[]⟩, .string ⟨#[]⟩, .int .i64 0, .int .i64 0, .slice none 0 0] 49)) 36 [.string ⟨#[]⟩, .string ⟨#[]⟩, .string ⟨#[]⟩, .bool false, .bool false]
    rwa [World.size_alloc] at h)
  have BA := Lib.hid (show Below X.heap.size X ((X.alloc (.cells #[.string ⟨#[]⟩, .string ⟨#[]⟩, .int .i64 0, .int .i64 0, .slice none 0 0] 49)).alloc (.cells #[.string ⟨#[]⟩, .string ⟨#[]⟩, .string ⟨#[]⟩, .bool false, .bool false] 36)) from ((Below.refl _ _).alloc (Nat.le_refl _) _).alloc (by simp) _)
  go_wp2_with (with_reducible refine wpList_storeR rfl 49 (.tmp 5) (.tmp 20) rfl N5.out [.string V.re, .string V.ke, .int .i64 V.life, .int .i64 V.iss, .slice A1 V.l.length c1] rfl rfl (lenG _ _ _ _ _ _ _ _ _ _) (sizeG _ _ _ _ _) (g_one _ _ _ _ _ _ _) BA.out (Nat.le_refl _) ?_)
  intro Ya R5a B5 H5
  have N6' := Lib.hid (show Row Ya (X.heap.size + 1) 36 [.string ⟨#[]⟩, .string ⟨#[]⟩, .string ⟨#[]⟩, .bool false, .bool false] from (H5.out.2 _ (by omega)).trans N6.out)
  go_wp2_with (with_reducible refine wpList_storeR rfl 36 (.tmp 6) (.tmp 21) rfl N6'.out [.string V.cr, .string V.cn, .string ⟨#[]⟩, .bool V.ci, .bool false] rfl rfl (lenG _ _ _ _ _ _ _ _ _ _) (sizeCh _ _ _ _ _) (ch_one _ _ _ _ _) B5.out (by omega) ?_)
  intro Y C6 B6 H6
  have G5 := Lib.hid (show Row Y X.heap.size 49 [.string V.re, .string V.ke, .int .i64 V.life, .int .i64 V.iss, .slice A1 V.l.length c1] from (H6.out.2 _ (by omega)).trans R5a.out)
  have R2'' := Lib.hid (R2'.out.below B6.out)
  have HA1' := Lib.hid ((HA1.out.below B6.out).up B6.out.size)
  have BY := Lib.hid (bthen BX.out B6.out)
  clear N5 N6 N6' BA B5 H5 H6 R5a BX R2' HA1 B6
  go_wp2_with (with_reducible refine wpList_loadR rfl 49 (.tmp 2) rfl R2''.out rfl Tryz.underlying49 rfl (sizeG _ _ _ _ _) ?_)
  refine (RN.out _ BY.out).mono ?_
  rintro e Z ⟨hbz, A2, c2, rfl, _, _, hA2⟩
  have R2 := Lib.hid (R2''.out.below hbz); have G5z := Lib.hid (G5.out.below hbz); have C6z := Lib.hid (C6.out.below hbz)
  have HA1 := Lib.hid ((HA1'.out.below hbz).up hbz.size)
  have BZ := Lib.hid (bthen BY.out hbz)
  have HA2 := Lib.hid hA2
  clear hbz R2'' G5 C6 HA1' BY hA2
  have N5 := Lib.hid (show Row ((Z.alloc (.cells #[.string ⟨#[]⟩, .string ⟨#[]⟩, .int .i64 0, .int .i64 0, .slice none 0 0] 49)).alloc (.cells #[.string ⟨#[]⟩, .string ⟨#[]⟩, .string ⟨#[]⟩, .bool false, .bool false] 36)) Z.heap.size 49 [.string ⟨#[]⟩, .string ⟨#[]⟩, .int .i64 0, .int .i64 0, .slice none 0 0] from (Row.new Z 49 [.string ⟨#[]⟩, .string ⟨#[]⟩, .int .i64 0, .int .i64 0, .slice none 0 0]).alloc _)
  have N6 := Lib.hid (show Row ((Z.alloc (.cells #[.string ⟨#[]⟩, .string ⟨#[]⟩, .int .i64 0, .int .i64 0, .slice none 0 0] 49)).alloc (.cells #[.string ⟨#[]⟩, .string ⟨#[]⟩, .string ⟨#[]⟩, .bool false, .bool false] 36)) (Z.heap.size + 1) 36 [.string ⟨#[]⟩, .string ⟨#[]⟩, .string ⟨#[]⟩, .bool false, .bool false] by
    have h := Row.new (Z.alloc (.cells #[.string ⟨#[]⟩, .string ⟨#[]⟩, .int .i64 0, .int .i64 0, .slice none 0 0] 49)) 36 [.string ⟨#[]⟩, .string ⟨#[]⟩, .string ⟨#[]⟩, .bool false, .bool false]
    rwa [World.size_alloc] at h)
  have BA := Lib.hid (show Below Z.heap.size Z ((Z.alloc (.cells #[.string ⟨#[]⟩, .string ⟨#[]⟩, .int .i64 0, .int .i64 0, .slice none 0 0] 49)).alloc (.cells #[.string ⟨#[]⟩, .string ⟨#[]⟩, .string ⟨#[]⟩, .bool false, .bool false] 36)) from ((Below.refl _ _).alloc (Nat.le_refl _) _).alloc (by simp) _)
  go_wp2_with (with_reducible refine wpList_storeR rfl 49 (.tmp 8) (.tmp 27) rfl N5.out [.string V.re, .string V.ke, .int .i64 V.life, .int .i64 V.iss, .slice A2 V.l.length c2] rfl rfl (lenG _ _ _ _ _ _ _ _ _ _) (sizeG _ _ _ _ _) (g_one _ _ _ _ _ _ _) BA.out (Nat.le_refl _) ?_)
  intro Ta R5a B5 H5
  have N6' := Lib.hid (show Row Ta (Z.heap.size + 1) 36 [.string ⟨#[]⟩, .string ⟨#[]⟩, .string ⟨#[]⟩, .bool false, .bool false] from (H5.out.2 _ (by omega)).trans N6.out)
  go_wp2_with (with_reducible refine wpList_storeR rfl 36 (.tmp 9) (.tmp 28) rfl N6'.out [.string V.cr, .string V.cn, .string ⟨#[]⟩, .bool V.ci, .bool false] rfl rfl (lenG _ _ _ _ _ _ _ _ _ _) (sizeCh _ _ _ _ _) (ch_one _ _ _ _ _) B5.out (by omega) ?_)
  intro T C9 B6 H6
  have G8 := Lib.hid (show Row T Z.heap.size 49 [.string V.re, .string V.ke, .int .i64 V.life, .int .i64 V.iss, .slice A2 V.l.length c2] from (H6.out.2 _ (by omega)).trans R5a.out)
  have R2' := Lib.hid (R2.out.below B6.out)
  have G5z' := Lib.hid (G5z.out.below B6.out)
  have C6z' := Lib.hid (C6z.out.below B6.out)
  have HA2' := Lib.hid ((HA2.out.below B6.out).up B6.out.size)
  have HA1' := Lib.hid ((HA1.out.below B6.out).up B6.out.size)
  have BT := Lib.hid (bthen BZ.out B6.out)
  clear N5 N6 N6' BA B5 H5 H6 R5a BZ R2 G5z C6z HA1 HA2 B6
  go_wp2_with fail
  have hgd := guardC
  have hsm := sameC
  have hse : ∀ (xs ys : Array Value) (w : World), (binOp .eql 36 (.agg xs) (.agg ys)).run Tryz.prog w = ((Op.equalIn 10000 36 (.agg xs) (.agg ys)).run Tryz.prog w).andThen fun b w' => .ok (.bool b) w' := fun xs ys w => run_eql_struct w _ xs ys
  have q50 := fun x : BW T => G5z'.out.later x 0; have q51 := fun x : BW T => G5z'.out.later x 1; have q52 := fun x : BW T => G5z'.out.later x 2; have q53 := fun x : BW T => G5z'.out.later x 3; have q54 := fun x : BW T => G5z'.out.later x 4
  have q80 := fun x : BW T => G8.out.later x 0; have q81 := fun x : BW T => G8.out.later x 1; have q82 := fun x : BW T => G8.out.later x 2; have q83 := fun x : BW T => G8.out.later x 3; have q84 := fun x : BW T => G8.out.later x 4
  have q60 := fun x : BW T => C6z'.out.later x 0; have q61 := fun x : BW T => C6z'.out.later x 1; have q62 := fun x : BW T => C6z'.out.later x 2; have q63 := fun x : BW T => C6z'.out.later x 3; have q64 := fun x : BW T => C6z'.out.later x 4
  have q90 := fun x : BW T => C9.out.later x 0; have q91 := fun x : BW T => C9.out.later x 1; have q92 := fun x : BW T => C9.out.later x 2; have q93 := fun x : BW T => C9.out.later x 3; have q94 := fun x : BW T => C9.out.later x 4
  simp only [List.getElem?_cons_succ, List.getElem?_cons_zero] at q50 q51 q52 q53 q54 q80 q81 q82 q83 q84 q60 q61 q62 q63 q64 q90 q91 q92 q93 q94
  have VAq := Lib.hid (fun (x : BW T) => VA.out x.w (bthen BT.out x.h)); have VRq := Lib.hid (fun (x : BW T) => VR.out x.w (bthen BT.out x.h))
  have SQ := Lib.hid (fun (x : BW T) => same07_any V.re V.ke V.life V.iss A1 A2 V.l.length c1 c2 V.l x.w ((HA1'.out.below x.h).up x.h.size) ((HA2'.out.below x.h).up x.h.size) rfl hVl)
  have AQ := Lib.hid (fun (x : BW T) => awake_any x.w (HG.out.below (bthen BT.out x.h)))
  refine region_bw (by kernel_rfl) (by kernel_rfl) ?_
  go_big_quiet_want
  refine quiet_load 49 (.tmp 2) rfl w.heap.size rfl _ 49 _ R2'.out Tryz.underlying49 rfl (sizeG _ _ _ _ _) ?_
  simp only [Act.put, List.setIfInBounds_toArray, List.set_cons_zero, List.set_cons_succ]
  go_big_quiet_on
  go_big_quiet_step (exact calls_bw (VAq.out _))
  go_big_quiet_want
  refine quiet_load 49 (.tmp 2) rfl w.heap.size rfl _ 49 _ R2'.out Tryz.underlying49 rfl (sizeG _ _ _ _ _) ?_
  simp only [Act.put, List.setIfInBounds_toArray, List.set_cons_zero, List.set_cons_succ]
  go_big_quiet_on
  go_big_quiet_step (exact calls_bw (VRq.out _))
  iterate 4 go_big_quiet_step (fail)
  go_big_quiet_step (exact calls_bw (SQ.out _))
  iterate 12 go_big_quiet_step (fail)
  go_big_quiet_step (exact calls_bw (AQ.out _))
  iterate 2 go_big_quiet_step (fail)
  refine wpQuiet_nil ?_
  rintro _ ⟨x, rfl⟩
  have B9 := Lib.hid (bthen BT.out x.h)
  clear hgd hsm hse q50 q51 q52 q53 q54 q80 q81 q82 q83 q84 q60 q61 q62 q63 q64 q90 q91 q92 q93 q94
  go_wp2_with fail
  go_ret
  exact ⟨rfl, B9.out⟩
end Go.Proofs.YtfhbpgickkibmaaGreatDoor
