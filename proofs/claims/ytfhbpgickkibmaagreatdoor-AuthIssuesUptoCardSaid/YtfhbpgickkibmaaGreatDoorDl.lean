/- Contract: the reference 07's ParseCredentials. -/
import Derived.Test.YtfhbpgickkibmaaGreatDoorDk
import Derived.Test.YtfhbpgickkibmaaGreatDoorDe
namespace Go.Proofs.YtfhbpgickkibmaaGreatDoor
open Go.RowKit

/-- What the walk keeps of memory: the result's block, the parameters. -/
structure QN (w : World) (T : TypeId) (Z : List Value) (A : Option Addr) (cs : List Value) (wr : World) : Prop where
  bw : Below w.heap.size w wr
  r : Row wr w.heap.size T Z
  p : Rds wr wr.heap.size A cs
theorem QN.below {w : World} {T : TypeId} {Z : List Value} {A : Option Addr} {cs : List Value} {wr w' : World} (h : QN w T Z A cs wr) (hb : Below wr.heap.size wr w') : QN w T Z A cs w' :=
  ⟨bthen h.bw hb, h.r.below hb, (h.p.below hb).up hb.size⟩
theorem gotL_gotF' {l : List (List Int × List Int)} (nm : List Int) (h : ∀ q ∈ l, fldOK 4000000 q) (hn : lowS nm = nm) : gotL (l.map prmOf) nm = gotF l nm := by
  unfold gotL gotF
  rw [getP_getF (fun q hq => (h q hq).2.2.2.2) hn]
theorem has_missing {l : List (List Int × List Int)} (h : ∀ q ∈ l, fldOK 4000000 q) : hasL (l.map prmOf) NMS = !missing l := by
  unfold hasL missing
  rw [List.all_eq_not_any_not]
  congr 1
  unfold NMS
  have hg := fun nm (hn : lowS nm = nm) => getP_getF (acc := l) (nm := nm) (fun q hq => (h q hq).2.2.2.2) hn
  simp only [List.any_cons, List.any_nil]
  rw [hg USER (by decide), hg REALM (by decide), hg NONCE (by decide), hg URI (by decide), hg RESP (by decide), hg CNONCE (by decide), hg NC (by decide)]
theorem prmBy_of' {l : List (List Int × List Int)} (h : ∀ q ∈ l, fldOK 4000000 q) : ∀ p ∈ l.map prmOf, prmBy p := fun p hp => by
  obtain ⟨q, hq, rfl⟩ := List.mem_map.1 hp
  obtain ⟨a1, a2, a3, a4, _⟩ := h q hq
  exact ⟨a1, a2, a3, a4⟩
theorem rds_new' (w : World) (T : TypeId) (vs : List Value) : Rds (w.alloc (.cells vs.toArray T)) (w.alloc (.cells vs.toArray T)).heap.size (some ⟨w.heap.size, 0, none⟩) vs := fun _ =>
  ⟨w.heap.size, 0, rfl, (Row.new w T vs).lt, fun j u hu => by rw [Nat.zero_add, (Row.new w T vs).cell j]; exact hu⟩
set_option maxRecDepth 100000 in
set_option maxHeartbeats 2000000 in
theorem refparsecr_any (s : ByteArray) (w : World) (hs : s.size ≤ 4000000) : Calls Tryz.prog 13 #[.string s] w fun e w' => e = .returned (crV (parseCr (byteL s))) ∧ Below w.heap.size w w' := by
  have PF := Lib.hid (fun l (h : fieldsL (byteL s) = .ok l) => show parseCr (byteL s) = if missing l = true then .error 8
    else if lowS (gotF l ALG) ≠ SHA then .error 15
    else if gotF l QOP ≠ AUTHI ∧ gotF l QOP ≠ AUTH then .error 15
    else if goodU (gotF l NC) = false ∨ (gotF l NC).length / 2 ≠ 4 then .error 5
    else .ok ⟨gotF l USER, gotF l REALM, gotF l NONCE, gotF l URI, gotF l RESP, gotF l CNONCE, gotF l OPAQUE, numL (unL (gotF l NC) 4), gotF l QOP == AUTHI⟩ by unfold parseCr; rw [h])
  have PB := Lib.hid (fun k (h : fieldsL (byteL s) = .error k) => show crV (parseCr (byteL s)) = .tuple #[.agg Z9.toArray, .int .u8 k] by unfold parseCr; rw [h]; rfl)
  have FO := Lib.hid (fun l (h : fieldsL (byteL s) = .ok l) => (fieldsL_ok (byteL_by s) (by rw [byteL_len]; omega) h))
  have VB := Lib.hid (fun k (h : parseCr (byteL s) = .error k) => show crV (parseCr (byteL s)) = .tuple #[.agg Z9.toArray, .int .u8 k] by rw [h]; rfl)
  have VY := Lib.hid (fun c (h : parseCr (byteL s) = .ok c) => show crV (parseCr (byteL s)) = .tuple #[.agg (crC c).toArray, .int .u8 0] by rw [h]; rfl)
  generalize hV : crV (parseCr (byteL s)) = VV at *
  clear hV
  generalize hP : parseCr (byteL s) = PP at *
  clear hP
  have R0 := Lib.hid (Row.new w 23 Z9)
  have B0 := Lib.hid ((Below.refl w.heap.size w).alloc (Nat.le_refl _) (.cells Z9.toArray 23))
  go_enter Tryz.func13, Tryz.ntmps13
  go_wp2_with fail
  refine (reffields_any s _ hs).mono ?_
  rintro e w1 hp
  cases hF : fieldsL (byteL s) with
  | error k =>
    unfold FldR at hp
    rw [hF] at hp
    obtain ⟨hb1, rfl⟩ := hp
    have B1 := Lib.hid (bthen B0.out hb1)
    have R1 := Lib.hid (R0.out.below hb1)
    clear hb1 R0 B0
    have hb : (k != 0) = true := by simpa using fieldsL_err hF
    have E := Lib.hid (PB.out k hF)
    clear hF
    go_wp2_with (with_reducible refine wpList_storeR rfl 23 (.tmp 2) (.tmp 15) rfl R1.out Z9 rfl rfl (lenL9 _ _ _ _ _ _ _ _ _ _ _ _ _ _ _ _ _ _) (sizeL9 _ _ _ _ _ _ _ _ _) (p9_one _ _ _ _ _ _ _ _ _) B1.out (Nat.le_refl _) ?_)
    intro w90 R9 B9 _
    go_wp2_with fail
    exact bodyPost_ret (results_ct rfl _ _ _ w.heap.size Z9 _ rfl R9.out.range Tryz.underlying23 rfl size9) rfl ⟨by rw [E.out]; rfl, B9.out⟩
  | ok l =>
    unfold FldR at hp
    rw [hF] at hp
    obtain ⟨v, rfl, hR⟩ := hp
    obtain ⟨A, c, rfl, hnc, hrd⟩ := hR.rds
    have M1 := Lib.hid (show QN w 23 Z9 A (prms (l.map prmOf)) w1 from ⟨bthen B0.out hR.bw, R0.out.below hR.bw, hrd⟩)
    have PE := Lib.hid (PF.out l hF)
    obtain ⟨hfo, hll⟩ := FO.out l hF
    have AO := Lib.hid (gotF_ok ALG hfo)
    have QO := Lib.hid (gotF_ok QOP hfo)
    have NO := Lib.hid (gotF_ok NC hfo)
    have GL := Lib.hid (fun nm hn => gotL_gotF' (l := l) nm hfo hn)
    have HM := Lib.hid (has_missing (l := l) hfo)
    have PS := Lib.hid (prmBy_of' hfo)
    have PL := Lib.hid (show (l.map prmOf).length = l.length from List.length_map _)
    have hN : (l.map prmOf).length ≤ 16000000 := by rw [PL.out]; omega
    clear hR hrd hF hfo hll R0 B0 PF PB FO PL
    generalize hn : (l.map prmOf).length = n at *
    have HN := Lib.hid hn
    clear hn
    have N2 := Lib.hid (rds_new' w1 9 [.string ⟨#[117, 115, 101, 114, 110, 97, 109, 101]⟩, .string ⟨#[114, 101, 97, 108, 109]⟩, .string ⟨#[110, 111, 110, 99, 101]⟩, .string ⟨#[117, 114, 105]⟩, .string ⟨#[114, 101, 115, 112, 111, 110, 115, 101]⟩, .string ⟨#[99, 110, 111, 110, 99, 101]⟩, .string ⟨#[110, 99]⟩])
    have M2 := Lib.hid (M1.out.below ((Below.refl w1.heap.size w1).alloc (Nat.le_refl _) (.cells #[.string ⟨#[117, 115, 101, 114, 110, 97, 109, 101]⟩, .string ⟨#[114, 101, 97, 108, 109]⟩, .string ⟨#[110, 111, 110, 99, 101]⟩, .string ⟨#[117, 114, 105]⟩, .string ⟨#[114, 101, 115, 112, 111, 110, 115, 101]⟩, .string ⟨#[99, 110, 111, 110, 99, 101]⟩, .string ⟨#[110, 99]⟩] 9)))
    go_wp2_with fail
    refine (has_any A _ n c 7 7 (l.map prmOf) [⟨#[117, 115, 101, 114, 110, 97, 109, 101]⟩, ⟨#[114, 101, 97, 108, 109]⟩, ⟨#[110, 111, 110, 99, 101]⟩, ⟨#[117, 114, 105]⟩, ⟨#[114, 101, 115, 112, 111, 110, 115, 101]⟩, ⟨#[99, 110, 111, 110, 99, 101]⟩, ⟨#[110, 99]⟩] _ M2.out.p HN.out PS.out hN N2.out rfl (by
      intro z hz
      simp only [List.mem_cons, List.not_mem_nil, or_false] at hz
      rcases hz with rfl | rfl | rfl | rfl | rfl | rfl | rfl <;> decide) (by decide)).mono ?_
    rintro e w3 ⟨rfl, hb3⟩
    have M3 := Lib.hid (M2.out.below hb3)
    clear hb3 M1 M2 N2
    rw [show [⟨#[117, 115, 101, 114, 110, 97, 109, 101]⟩, ⟨#[114, 101, 97, 108, 109]⟩, ⟨#[110, 111, 110, 99, 101]⟩, ⟨#[117, 114, 105]⟩, ⟨#[114, 101, 115, 112, 111, 110, 115, 101]⟩, ⟨#[99, 110, 111, 110, 99, 101]⟩, ⟨#[110, 99]⟩].map byteL = NMS from rfl, HM.out]
    clear HM
    cases hms : missing l with
    | true =>
      have E := Lib.hid (VB.out 8 (PE.out.trans (if_pos hms)))
      rw [show (!true) = false from rfl]
      clear hms
      go_wp2_with (with_reducible refine wpList_storeR rfl 23 (.tmp 2) (.tmp 21) rfl M3.out.r Z9 rfl rfl (lenL9 _ _ _ _ _ _ _ _ _ _ _ _ _ _ _ _ _ _) (sizeL9 _ _ _ _ _ _ _ _ _) (p9_one _ _ _ _ _ _ _ _ _) M3.out.bw (Nat.le_refl _) ?_)
      intro w90 R9 B9 _
      go_wp2_with fail
      exact bodyPost_ret (results_ct rfl _ _ _ w.heap.size Z9 _ rfl R9.out.range Tryz.underlying23 rfl size9) rfl ⟨by rw [E.out]; rfl, B9.out⟩
    | false =>
      have PE0 := Lib.hid (PE.out.trans (if_neg (by rw [hms]; decide)))
      rw [show (!false) = true from rfl]
      clear hms PE
      go_wp2_with fail
      refine (gets_any A n c (l.map prmOf) _ _ M3.out.p HN.out PS.out hN (by decide)).mono ?_
      rintro e w4 ⟨rfl, hb⟩
      have M4 := Lib.hid (M3.out.below hb)
      clear hb M3
      rw [show byteL ⟨#[113, 111, 112]⟩ = QOP from rfl, GL.out QOP (by decide)]
      generalize gotF l QOP = gq at *
      go_wp2_with fail
      refine (gets_any A n c (l.map prmOf) _ _ M4.out.p HN.out PS.out hN (by decide)).mono ?_
      rintro e w5 ⟨rfl, hb⟩
      have M5 := Lib.hid (M4.out.below hb)
      clear hb M4
      rw [show byteL ⟨#[97, 108, 103, 111, 114, 105, 116, 104, 109]⟩ = ALG from rfl, GL.out ALG (by decide)]
      generalize gotF l ALG = ga at *
      go_wp2_with fail
      refine (reflower_any _ _ (by rw [num_size]; exact AO.out.2)).mono ?_
      rintro e w6 ⟨rfl, hb⟩
      have M6 := Lib.hid (M5.out.below hb)
      clear hb M5
      rw [byteL_str AO.out.1]
      have BL := Lib.hid (lowS_by AO.out.1)
      have DQ := Lib.hid (show (strOfNums (lowS ga)).toList = [115, 104, 97, 45, 50, 53, 54] ↔ lowS ga = SHA from lit_eq BL.out _)
      generalize lowS ga = LW at *
      have DA := Lib.hid (show (strOfNums gq).toList = [97, 117, 116, 104] ↔ gq = AUTH from lit_eq QO.out.1 _)
      have DI := Lib.hid (show (strOfNums gq).toList = [97, 117, 116, 104, 45, 105, 110, 116] ↔ gq = AUTHI from lit_eq QO.out.1 _)
      by_cases hD : LW = SHA
      · have q := DQ.out.2 hD
        have PE1 := Lib.hid (PE0.out.trans (if_neg (fun h => h hD)))
        clear hD
        by_cases hI : gq = AUTHI
        · have qi := DI.out.2 hI
          have PE2 := Lib.hid (PE1.out.trans (if_neg (fun h => h.1 hI)))
          have GB := Lib.hid (show (gq == AUTHI) = true by simpa using hI)
          rw [GB.out] at PE2
          clear hI
          go_wp2_with fail
          refine (gets_any A n c (l.map prmOf) _ _ M6.out.p HN.out PS.out hN (by decide)).mono ?_
          rintro e w7 ⟨rfl, hb⟩
          have M7 := Lib.hid (M6.out.below hb)
          clear hb M6
          rw [show byteL ⟨#[110, 99]⟩ = NC from rfl, GL.out NC (by decide)]
          generalize gotF l NC = g7 at *
          go_wp2_with fail
          refine (refcount_any _ _ (by rw [num_size]; exact NO.out.2)).mono ?_
          rintro e w8 ⟨rfl, rfl⟩
          rw [byteL_str NO.out.1]
          by_cases hbd : goodU g7 = false ∨ g7.length / 2 ≠ 4
          · have E := Lib.hid (VB.out 5 (PE2.out.trans (if_pos hbd)))
            rw [count_bad hbd]
            clear hbd
            go_wp2_with (with_reducible refine wpList_storeR rfl 23 (.tmp 2) (.tmp 42) rfl M7.out.r Z9 rfl rfl (lenL9 _ _ _ _ _ _ _ _ _ _ _ _ _ _ _ _ _ _) (sizeL9 _ _ _ _ _ _ _ _ _) (p9_one _ _ _ _ _ _ _ _ _) M7.out.bw (Nat.le_refl _) ?_)
            intro w90 R9 B9 _
            go_wp2_with fail
            exact bodyPost_ret (results_ct rfl _ _ _ w.heap.size Z9 _ rfl R9.out.range Tryz.underlying23 rfl size9) rfl ⟨by rw [E.out]; rfl, B9.out⟩
          · have PE3 := Lib.hid (PE2.out.trans (if_neg hbd))
            obtain ⟨hc1, hc2⟩ := count_good hbd
            rw [← hc1] at PE3
            clear hbd hc1
            generalize countR g7 = y at *
            have y0 : decide (y < 0) = false := by simp; omega
            clear hc2
            go_wp2_with fail
            refine (gets_any A n c (l.map prmOf) _ _ M7.out.p HN.out PS.out hN (by decide)).mono ?_
            rintro e w8 ⟨rfl, hb⟩
            have M8 := Lib.hid (M7.out.below hb)
            clear hb M7
            rw [show byteL ⟨#[117, 115, 101, 114, 110, 97, 109, 101]⟩ = USER from rfl, GL.out USER (by decide)]
            generalize gotF l USER = g1 at *
            go_wp2_with fail
            refine (gets_any A n c (l.map prmOf) _ _ M8.out.p HN.out PS.out hN (by decide)).mono ?_
            rintro e w9 ⟨rfl, hb⟩
            have M9 := Lib.hid (M8.out.below hb)
            clear hb M8
            rw [show byteL ⟨#[114, 101, 97, 108, 109]⟩ = REALM from rfl, GL.out REALM (by decide)]
            generalize gotF l REALM = g2 at *
            go_wp2_with fail
            refine (gets_any A n c (l.map prmOf) _ _ M9.out.p HN.out PS.out hN (by decide)).mono ?_
            rintro e w10 ⟨rfl, hb⟩
            have M10 := Lib.hid (M9.out.below hb)
            clear hb M9
            rw [show byteL ⟨#[110, 111, 110, 99, 101]⟩ = NONCE from rfl, GL.out NONCE (by decide)]
            generalize gotF l NONCE = g3 at *
            go_wp2_with fail
            refine (gets_any A n c (l.map prmOf) _ _ M10.out.p HN.out PS.out hN (by decide)).mono ?_
            rintro e w11 ⟨rfl, hb⟩
            have M11 := Lib.hid (M10.out.below hb)
            clear hb M10
            rw [show byteL ⟨#[117, 114, 105]⟩ = URI from rfl, GL.out URI (by decide)]
            generalize gotF l URI = g4 at *
            go_wp2_with fail
            refine (gets_any A n c (l.map prmOf) _ _ M11.out.p HN.out PS.out hN (by decide)).mono ?_
            rintro e w12 ⟨rfl, hb⟩
            have M12 := Lib.hid (M11.out.below hb)
            clear hb M11
            rw [show byteL ⟨#[114, 101, 115, 112, 111, 110, 115, 101]⟩ = RESP from rfl, GL.out RESP (by decide)]
            generalize gotF l RESP = g5 at *
            go_wp2_with fail
            refine (gets_any A n c (l.map prmOf) _ _ M12.out.p HN.out PS.out hN (by decide)).mono ?_
            rintro e w13 ⟨rfl, hb⟩
            have M13 := Lib.hid (M12.out.below hb)
            clear hb M12
            rw [show byteL ⟨#[99, 110, 111, 110, 99, 101]⟩ = CNONCE from rfl, GL.out CNONCE (by decide)]
            generalize gotF l CNONCE = g6 at *
            go_wp2_with fail
            refine (gets_any A n c (l.map prmOf) _ _ M13.out.p HN.out PS.out hN (by decide)).mono ?_
            rintro e w14 ⟨rfl, hb⟩
            have M14 := Lib.hid (M13.out.below hb)
            clear hb M13
            rw [show byteL ⟨#[111, 112, 97, 113, 117, 101]⟩ = OPAQUE from rfl, GL.out OPAQUE (by decide)]
            generalize gotF l OPAQUE = go at *
            have E := Lib.hid (VY.out ⟨g1, g2, g3, g4, g5, g6, go, y, true⟩ PE3.out)
            go_wp2_with (with_reducible refine wpList_storeR rfl 23 (.tmp 2) (.tmp 60) rfl M14.out.r [.string (strOfNums g1), .string (strOfNums g2), .string (strOfNums g3), .string (strOfNums g4), .string (strOfNums g5), .string (strOfNums g6), .string (strOfNums go), .int .i64 y, .bool true] rfl rfl (lenL9 _ _ _ _ _ _ _ _ _ _ _ _ _ _ _ _ _ _) (sizeL9 _ _ _ _ _ _ _ _ _) (p9_one _ _ _ _ _ _ _ _ _) M14.out.bw (Nat.le_refl _) ?_)
            intro w90 R9 B9 _
            go_wp2_with fail
            exact bodyPost_ret (results_ct rfl _ _ _ w.heap.size [.string (strOfNums g1), .string (strOfNums g2), .string (strOfNums g3), .string (strOfNums g4), .string (strOfNums g5), .string (strOfNums g6), .string (strOfNums go), .int .i64 y, .bool true] _ rfl R9.out.range Tryz.underlying23 rfl size9) rfl ⟨by rw [E.out]; rfl, B9.out⟩
        · have qi : ((strOfNums gq).toList == ([97, 117, 116, 104, 45, 105, 110, 116] : List UInt8)) = false := by
            rw [Bool.eq_false_iff]; intro h; exact hI (DI.out.1 (by simpa using h))
          have GB := Lib.hid (show (gq == AUTHI) = false by simpa using hI)
          by_cases hA : gq = AUTH
          · have qa := DA.out.2 hA
            have PE2 := Lib.hid (PE1.out.trans (if_neg (fun h => h.2 hA)))
            rw [GB.out] at PE2
            have HI := Lib.hid hI
            clear hA hI
            rw [qa] at qi
            go_wp2_with fail
            refine (gets_any A n c (l.map prmOf) _ _ M6.out.p HN.out PS.out hN (by decide)).mono ?_
            rintro e w7 ⟨rfl, hb⟩
            have M7 := Lib.hid (M6.out.below hb)
            clear hb M6
            rw [show byteL ⟨#[110, 99]⟩ = NC from rfl, GL.out NC (by decide)]
            generalize gotF l NC = g7 at *
            go_wp2_with fail
            refine (refcount_any _ _ (by rw [num_size]; exact NO.out.2)).mono ?_
            rintro e w8 ⟨rfl, rfl⟩
            rw [byteL_str NO.out.1]
            by_cases hbd : goodU g7 = false ∨ g7.length / 2 ≠ 4
            · have E := Lib.hid (VB.out 5 (PE2.out.trans (if_pos hbd)))
              rw [count_bad hbd]
              clear hbd
              go_wp2_with (with_reducible refine wpList_storeR rfl 23 (.tmp 2) (.tmp 42) rfl M7.out.r Z9 rfl rfl (lenL9 _ _ _ _ _ _ _ _ _ _ _ _ _ _ _ _ _ _) (sizeL9 _ _ _ _ _ _ _ _ _) (p9_one _ _ _ _ _ _ _ _ _) M7.out.bw (Nat.le_refl _) ?_)
              intro w90 R9 B9 _
              go_wp2_with fail
              exact bodyPost_ret (results_ct rfl _ _ _ w.heap.size Z9 _ rfl R9.out.range Tryz.underlying23 rfl size9) rfl ⟨by rw [E.out]; rfl, B9.out⟩
            · have PE3 := Lib.hid (PE2.out.trans (if_neg hbd))
              obtain ⟨hc1, hc2⟩ := count_good hbd
              rw [← hc1] at PE3
              clear hbd hc1
              generalize countR g7 = y at *
              have y0 : decide (y < 0) = false := by simp; omega
              clear hc2
              go_wp2_with fail
              refine (gets_any A n c (l.map prmOf) _ _ M7.out.p HN.out PS.out hN (by decide)).mono ?_
              rintro e w8 ⟨rfl, hb⟩
              have M8 := Lib.hid (M7.out.below hb)
              clear hb M7
              rw [show byteL ⟨#[117, 115, 101, 114, 110, 97, 109, 101]⟩ = USER from rfl, GL.out USER (by decide)]
              generalize gotF l USER = g1 at *
              go_wp2_with fail
              refine (gets_any A n c (l.map prmOf) _ _ M8.out.p HN.out PS.out hN (by decide)).mono ?_
              rintro e w9 ⟨rfl, hb⟩
              have M9 := Lib.hid (M8.out.below hb)
              clear hb M8
              rw [show byteL ⟨#[114, 101, 97, 108, 109]⟩ = REALM from rfl, GL.out REALM (by decide)]
              generalize gotF l REALM = g2 at *
              go_wp2_with fail
              refine (gets_any A n c (l.map prmOf) _ _ M9.out.p HN.out PS.out hN (by decide)).mono ?_
              rintro e w10 ⟨rfl, hb⟩
              have M10 := Lib.hid (M9.out.below hb)
              clear hb M9
              rw [show byteL ⟨#[110, 111, 110, 99, 101]⟩ = NONCE from rfl, GL.out NONCE (by decide)]
              generalize gotF l NONCE = g3 at *
              go_wp2_with fail
              refine (gets_any A n c (l.map prmOf) _ _ M10.out.p HN.out PS.out hN (by decide)).mono ?_
              rintro e w11 ⟨rfl, hb⟩
              have M11 := Lib.hid (M10.out.below hb)
              clear hb M10
              rw [show byteL ⟨#[117, 114, 105]⟩ = URI from rfl, GL.out URI (by decide)]
              generalize gotF l URI = g4 at *
              go_wp2_with fail
              refine (gets_any A n c (l.map prmOf) _ _ M11.out.p HN.out PS.out hN (by decide)).mono ?_
              rintro e w12 ⟨rfl, hb⟩
              have M12 := Lib.hid (M11.out.below hb)
              clear hb M11
              rw [show byteL ⟨#[114, 101, 115, 112, 111, 110, 115, 101]⟩ = RESP from rfl, GL.out RESP (by decide)]
              generalize gotF l RESP = g5 at *
              go_wp2_with fail
              refine (gets_any A n c (l.map prmOf) _ _ M12.out.p HN.out PS.out hN (by decide)).mono ?_
              rintro e w13 ⟨rfl, hb⟩
              have M13 := Lib.hid (M12.out.below hb)
              clear hb M12
              rw [show byteL ⟨#[99, 110, 111, 110, 99, 101]⟩ = CNONCE from rfl, GL.out CNONCE (by decide)]
              generalize gotF l CNONCE = g6 at *
              go_wp2_with fail
              refine (gets_any A n c (l.map prmOf) _ _ M13.out.p HN.out PS.out hN (by decide)).mono ?_
              rintro e w14 ⟨rfl, hb⟩
              have M14 := Lib.hid (M13.out.below hb)
              clear hb M13
              rw [show byteL ⟨#[111, 112, 97, 113, 117, 101]⟩ = OPAQUE from rfl, GL.out OPAQUE (by decide)]
              generalize gotF l OPAQUE = go at *
              have E := Lib.hid (VY.out ⟨g1, g2, g3, g4, g5, g6, go, y, false⟩ PE3.out)
              go_wp2_with (with_reducible refine wpList_storeR rfl 23 (.tmp 2) (.tmp 60) rfl M14.out.r [.string (strOfNums g1), .string (strOfNums g2), .string (strOfNums g3), .string (strOfNums g4), .string (strOfNums g5), .string (strOfNums g6), .string (strOfNums go), .int .i64 y, .bool false] rfl rfl (lenL9 _ _ _ _ _ _ _ _ _ _ _ _ _ _ _ _ _ _) (sizeL9 _ _ _ _ _ _ _ _ _) (p9_one _ _ _ _ _ _ _ _ _) M14.out.bw (Nat.le_refl _) ?_)
              intro w90 R9 B9 _
              go_wp2_with fail
              exact bodyPost_ret (results_ct rfl _ _ _ w.heap.size [.string (strOfNums g1), .string (strOfNums g2), .string (strOfNums g3), .string (strOfNums g4), .string (strOfNums g5), .string (strOfNums g6), .string (strOfNums go), .int .i64 y, .bool false] _ rfl R9.out.range Tryz.underlying23 rfl size9) rfl ⟨by rw [E.out]; rfl, B9.out⟩
          · have qa : ((strOfNums gq).toList == ([97, 117, 116, 104] : List UInt8)) = false := by
              rw [Bool.eq_false_iff]; intro h; exact hA (DA.out.1 (by simpa using h))
            have E := Lib.hid (VB.out 15 (PE1.out.trans (if_pos ⟨hI, hA⟩)))
            clear hA hI
            go_wp2_with (with_reducible refine wpList_storeR rfl 23 (.tmp 2) (.tmp 36) rfl M6.out.r Z9 rfl rfl (lenL9 _ _ _ _ _ _ _ _ _ _ _ _ _ _ _ _ _ _) (sizeL9 _ _ _ _ _ _ _ _ _) (p9_one _ _ _ _ _ _ _ _ _) M6.out.bw (Nat.le_refl _) ?_)
            intro w90 R9 B9 _
            go_wp2_with fail
            exact bodyPost_ret (results_ct rfl _ _ _ w.heap.size Z9 _ rfl R9.out.range Tryz.underlying23 rfl size9) rfl ⟨by rw [E.out]; rfl, B9.out⟩
      · have q : ((strOfNums LW).toList == ([115, 104, 97, 45, 50, 53, 54] : List UInt8)) = false := by
          rw [Bool.eq_false_iff]; intro h; exact hD (DQ.out.1 (by simpa using h))
        have E := Lib.hid (VB.out 15 (PE0.out.trans (if_pos hD)))
        clear hD
        go_wp2_with (with_reducible refine wpList_storeR rfl 23 (.tmp 2) (.tmp 36) rfl M6.out.r Z9 rfl rfl (lenL9 _ _ _ _ _ _ _ _ _ _ _ _ _ _ _ _ _ _) (sizeL9 _ _ _ _ _ _ _ _ _) (p9_one _ _ _ _ _ _ _ _ _) M6.out.bw (Nat.le_refl _) ?_)
        intro w90 R9 B9 _
        go_wp2_with fail
        exact bodyPost_ret (results_ct rfl _ _ _ w.heap.size Z9 _ rfl R9.out.range Tryz.underlying23 rfl size9) rfl ⟨by rw [E.out]; rfl, B9.out⟩
end Go.Proofs.YtfhbpgickkibmaaGreatDoor
