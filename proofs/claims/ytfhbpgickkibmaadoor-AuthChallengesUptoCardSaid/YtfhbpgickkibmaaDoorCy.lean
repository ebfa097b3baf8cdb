/- Contract: the reference 07's ParseChallenge. -/
import Derived.Test.YtfhbpgickkibmaaDoorCx
namespace Go.Proofs.YtfhbpgickkibmaaDoor
open Go.RowKit

/-- What the walk keeps of memory: the result's block, the parameters. -/
structure QM (w : World) (T : TypeId) (Z : List Value) (A : Option Addr) (cs : List Value) (wr : World) : Prop where
  bw : Below w.heap.size w wr
  r : Row wr w.heap.size T Z
  p : Rds wr wr.heap.size A cs
theorem QM.below {w : World} {T : TypeId} {Z : List Value} {A : Option Addr} {cs : List Value} {wr w' : World} (h : QM w T Z A cs wr) (hb : Below wr.heap.size wr w') : QM w T Z A cs w' :=
  ⟨bthen h.bw hb, h.r.below hb, (h.p.below hb).up hb.size⟩
theorem gotL_gotF {l : List (List Int × List Int)} (nm : List Int) (h : ∀ q ∈ l, fldOK 4000000 q) (hn : lowS nm = nm) : gotL (l.map prmOf) nm = gotF l nm := by
  unfold gotL gotF
  rw [getP_getF (fun q hq => (h q hq).2.2.2.2) hn]
theorem getP_getF2 {l : List (List Int × List Int)} (nm : List Int) (h : ∀ q ∈ l, fldOK 4000000 q) (hn : lowS nm = nm) : getP (l.map prmOf) nm = getF l nm := getP_getF (fun q hq => (h q hq).2.2.2.2) hn
theorem prmBy_of {l : List (List Int × List Int)} (h : ∀ q ∈ l, fldOK 4000000 q) : ∀ p ∈ l.map prmOf, prmBy p := fun p hp => by
  obtain ⟨q, hq, rfl⟩ := List.mem_map.1 hp
  obtain ⟨a1, a2, a3, a4, _⟩ := h q hq
  exact ⟨a1, a2, a3, a4⟩
theorem rds_new (w : World) (T : TypeId) (vs : List Value) : Rds (w.alloc (.cells vs.toArray T)) (w.alloc (.cells vs.toArray T)).heap.size (some ⟨w.heap.size, 0, none⟩) vs := fun _ =>
  ⟨w.heap.size, 0, rfl, (Row.new w T vs).lt, fun j u hu => by rw [Nat.zero_add, (Row.new w T vs).cell j]; exact hu⟩
set_option maxRecDepth 100000 in
set_option maxHeartbeats 1000000 in
theorem refparsech_any (s : ByteArray) (w : World) (hs : s.size ≤ 4000000) : Calls Tryd.prog 6 #[.string s] w fun e w' => e = .returned (chV (parseCh (byteL s))) ∧ Below w.heap.size w w' := by
  have PF := Lib.hid (fun l (h : fieldsL (byteL s) = .ok l) => show parseCh (byteL s) = if (getF l REALM).isSome = false ∨ (getF l NONCE).isSome = false then .error 8
    else if lowS (gotF l ALG) ≠ SHA ∨ (wordsL (gotF l QOP)).contains AUTH = false then .error 15
    else .ok ⟨gotF l REALM, gotF l NONCE, gotF l OPAQUE, (wordsL (gotF l QOP)).contains AUTHI, lowS (gotF l STALE) == TRUE⟩ by unfold parseCh; rw [h])
  have PB := Lib.hid (fun k (h : fieldsL (byteL s) = .error k) => show chV (parseCh (byteL s)) = .tuple #[.agg Z5.toArray, .int .u8 k] by unfold parseCh; rw [h]; rfl)
  have FO := Lib.hid (fun l (h : fieldsL (byteL s) = .ok l) => (fieldsL_ok (byteL_by s) (by rw [byteL_len]; omega) h))
  have VB := Lib.hid (fun k (h : parseCh (byteL s) = .error k) => show chV (parseCh (byteL s)) = .tuple #[.agg Z5.toArray, .int .u8 k] by rw [h]; rfl)
  have VY := Lib.hid (fun c (h : parseCh (byteL s) = .ok c) => show chV (parseCh (byteL s)) = .tuple #[.agg (chC c).toArray, .int .u8 0] by rw [h]; rfl)
  generalize hV : chV (parseCh (byteL s)) = VV at *
  clear hV
  generalize hP : parseCh (byteL s) = PP at *
  clear hP
  have R0 := Lib.hid (Row.new w 23 Z5)
  have B0 := Lib.hid ((Below.refl w.heap.size w).alloc (Nat.le_refl _) (.cells Z5.toArray 23))
  go_enter Tryd.func6, Tryd.ntmps6
  go_wp2_with fail
  refine (reffields_any s _ hs).mono ?_
  rintro e w1 hp
  cases hF : fieldsL (byteL s) with
  | error k =>
    unfold FldR at hp
    rw [hF] at hp
    obtain ⟨hb1, rfl⟩ := hp
    have B1 := Lib.hid (bthen B0.out hb1)
    have R1 := Lib.hid (R0.out.below hb1)
    clear hb1 R0 B0
    have hb : (k != 0) = true := by simpa using fieldsL_err hF
    have E := Lib.hid (PB.out k hF)
    clear hF
    go_wp2_with (with_reducible refine wpList_storeR rfl 23 (.tmp 2) (.tmp 14) rfl R1.out Z5 rfl rfl (lenL5 _ _ _ _ _ _ _ _ _ _) (sizeL5 _ _ _ _ _) (p5_one _ _ _ _ _) B1.out (Nat.le_refl _) ?_)
    intro w3 R3 B3 _
    go_wp2_with fail
    exact bodyPost_ret (results_ct rfl _ _ _ w.heap.size Z5 _ rfl R3.out.range Tryd.underlying23 rfl size5) rfl ⟨by rw [E.out]; rfl, B3.out⟩
  | ok l =>
    unfold FldR at hp
    rw [hF] at hp
    obtain ⟨v, rfl, hR⟩ := hp
    obtain ⟨A, c, rfl, hnc, hrd⟩ := hR.rds
    have M1 := Lib.hid (show QM w 23 Z5 A (prms (l.map prmOf)) w1 from ⟨bthen B0.out hR.bw, R0.out.below hR.bw, hrd⟩)
    have PE := Lib.hid (PF.out l hF)
    obtain ⟨hfo, hll⟩ := FO.out l hF
    have AO := Lib.hid (gotF_ok ALG hfo)
    have QO := Lib.hid (gotF_ok QOP hfo)
    have SO := Lib.hid (gotF_ok STALE hfo)
    have GL := Lib.hid (fun nm hn => gotL_gotF (l := l) nm hfo hn)
    have GP := Lib.hid (fun nm hn => getP_getF2 (l := l) nm hfo hn)
    have PS := Lib.hid (prmBy_of hfo)
    have PL := Lib.hid (show (l.map prmOf).length = l.length from List.length_map _)
    have hN : (l.map prmOf).length ≤ 16000000 := by rw [PL.out]; omega
    clear hR hrd hF hfo hll R0 B0 PF PB FO PL
    generalize hn : (l.map prmOf).length = n at *
    have HN := Lib.hid hn
    clear hn
    have N2 := Lib.hid (rds_new w1 9 [.string ⟨#[114, 101, 97, 108, 109]⟩, .string ⟨#[110, 111, 110, 99, 101]⟩])
    have M2 := Lib.hid (M1.out.below ((Below.refl w1.heap.size w1).alloc (Nat.le_refl _) (.cells #[.string ⟨#[114, 101, 97, 108, 109]⟩, .string ⟨#[110, 111, 110, 99, 101]⟩] 9)))
    go_wp2_with fail
    refine (has_any A _ n c 2 2 (l.map prmOf) [⟨#[114, 101, 97, 108, 109]⟩, ⟨#[110, 111, 110, 99, 101]⟩] _ M2.out.p HN.out PS.out hN N2.out rfl (by simp <;> decide) (by decide)).mono ?_
    rintro e w3 ⟨rfl, hb3⟩
    have M3 := Lib.hid (M2.out.below hb3)
    clear hb3 M1 M2 N2
    have HE := Lib.hid (show hasL (l.map prmOf) ([⟨#[114, 101, 97, 108, 109]⟩, ⟨#[110, 111, 110, 99, 101]⟩].map byteL) = ((getF l REALM).isSome && (getF l NONCE).isSome) by
      rw [← GP.out REALM (by decide), ← GP.out NONCE (by decide)]
      unfold hasL
      rw [List.map_cons, List.map_cons, List.map_nil, List.all_cons, List.all_cons, List.all_nil, Bool.and_true]
      rfl)
    rw [HE.out]
    clear HE
    generalize (getF l REALM).isSome = b1 at *
    generalize (getF l NONCE).isSome = b2 at *
    by_cases hbb : b1 = false ∨ b2 = false
    · have E := Lib.hid (VB.out 8 (PE.out.trans (if_pos hbb)))
      rw [show (b1 && b2) = false by rcases hbb with rfl | rfl <;> simp]
      clear hbb
      go_wp2_with (with_reducible refine wpList_storeR rfl 23 (.tmp 2) (.tmp 20) rfl M3.out.r Z5 rfl rfl (lenL5 _ _ _ _ _ _ _ _ _ _) (sizeL5 _ _ _ _ _) (p5_one _ _ _ _ _) M3.out.bw (Nat.le_refl _) ?_)
      intro w3 R3 B3 _
      go_wp2_with fail
      exact bodyPost_ret (results_ct rfl _ _ _ w.heap.size Z5 _ rfl R3.out.range Tryd.underlying23 rfl size5) rfl ⟨by rw [E.out]; rfl, B3.out⟩
    · have PE1 := Lib.hid (PE.out.trans (if_neg hbb))
      obtain rfl : b1 = true := by cases b1 <;> simp_all
      obtain rfl : b2 = true := by cases b2 <;> simp_all
      clear hbb PE
      rw [show (true && true) = true from rfl]
      go_wp2_with fail
      refine (gets_any A n c (l.map prmOf) _ _ M3.out.p HN.out PS.out hN (by decide)).mono ?_
      rintro e w4 ⟨rfl, hb4⟩
      have M4 := Lib.hid (M3.out.below hb4)
      clear hb4 M3
      rw [show byteL ⟨#[113, 111, 112]⟩ = QOP from rfl, GL.out QOP (by decide)]
      generalize gotF l QOP = gq at *
      go_wp2_with fail
      refine (words_any _ _ (by rw [num_size]; exact QO.out.2)).mono ?_
      rintro e w5 ⟨v, zs, rfl, hT, hz, hzl⟩
      rw [byteL_str QO.out.1] at hz
      obtain ⟨A2, c2, rfl, hnc2, hrd2⟩ := hT.rds
      have M5 := Lib.hid (M4.out.below hT.bw)
      have T5 := Lib.hid hrd2
      have B5 := Lib.hid (Below.refl w5.heap.size w5)
      have ZW := Lib.hid hz
      clear hT hz hrd2 M4
      generalize hn2 : zs.length = n2 at *
      have HN2 := Lib.hid hn2
      clear hn2
      go_wp2_with fail
      refine (gets_any A n c (l.map prmOf) _ _ M5.out.p HN.out PS.out hN (by decide)).mono ?_
      rintro e w6 ⟨rfl, hb6⟩
      have M6 := Lib.hid (M5.out.below hb6)
      have T6 := Lib.hid ((T5.out.below hb6).up hb6.size)
      clear hb6 M5 T5 B5
      rw [show byteL ⟨#[97, 108, 103, 111, 114, 105, 116, 104, 109]⟩ = ALG from rfl, GL.out ALG (by decide)]
      generalize gotF l ALG = ga at *
      go_wp2_with fail
      refine (reflower_any _ _ (by rw [num_size]; exact AO.out.2)).mono ?_
      rintro e w7 ⟨rfl, hb7⟩
      have M7 := Lib.hid (M6.out.below hb7)
      have T7 := Lib.hid ((T6.out.below hb7).up hb7.size)
      clear hb7 M6 T6
      rw [byteL_str AO.out.1]
      have BL := Lib.hid (lowS_by AO.out.1)
      have DQ := Lib.hid (show (strOfNums (lowS ga)).toList = [115, 104, 97, 45, 50, 53, 54] ↔ lowS ga = SHA from lit_eq BL.out _)
      generalize lowS ga = LW at *
      have CA := Lib.hid (show amongL zs ⟨#[97, 117, 116, 104]⟩ = (wordsL gq).contains AUTH by unfold amongL; rw [ZW.out]; rfl)
      have CI := Lib.hid (show amongL zs ⟨#[97, 117, 116, 104, 45, 105, 110, 116]⟩ = (wordsL gq).contains AUTHI by unfold amongL; rw [ZW.out]; rfl)
      by_cases hD : LW = SHA
      · have q := DQ.out.2 hD
        have HD := Lib.hid hD
        clear hD
        go_wp2_with fail
        clear q
        refine (among_any A2 n2 c2 zs _ _ T7.out HN2.out (by omega)).mono ?_
        rintro e w8 ⟨rfl, rfl⟩
        rw [CA.out]
        generalize (wordsL gq).contains AUTH = ca at *
        clear CA
        cases ca with
        | false =>
          have E := Lib.hid (VB.out 15 (PE1.out.trans (if_pos (.inr rfl))))
          go_wp2_with (with_reducible refine wpList_storeR rfl 23 (.tmp 2) (.tmp 33) rfl M7.out.r Z5 rfl rfl (lenL5 _ _ _ _ _ _ _ _ _ _) (sizeL5 _ _ _ _ _) (p5_one _ _ _ _ _) M7.out.bw (Nat.le_refl _) ?_)
          intro w3 R3 B3 _
          go_wp2_with fail
          exact bodyPost_ret (results_ct rfl _ _ _ w.heap.size Z5 _ rfl R3.out.range Tryd.underlying23 rfl size5) rfl ⟨by rw [E.out]; rfl, B3.out⟩
        | true =>
          have PE2 := Lib.hid (PE1.out.trans (if_neg (by rw [HD.out]; rintro (h | h); exact h rfl; cases h)))
          clear PE1
          go_wp2_with fail
          refine (gets_any A n c (l.map prmOf) _ _ M7.out.p HN.out PS.out hN (by decide)).mono ?_
          rintro e w8 ⟨rfl, hb8⟩
          have M8 := Lib.hid (M7.out.below hb8)
          have T8 := Lib.hid ((T7.out.below hb8).up hb8.size)
          clear hb8 M7 T7
          rw [show byteL ⟨#[114, 101, 97, 108, 109]⟩ = REALM from rfl, GL.out REALM (by decide)]
          generalize gotF l REALM = gr at *
          go_wp2_with fail
          refine (gets_any A n c (l.map prmOf) _ _ M8.out.p HN.out PS.out hN (by decide)).mono ?_
          rintro e w9 ⟨rfl, hb9⟩
          have M9 := Lib.hid (M8.out.below hb9)
          have T9 := Lib.hid ((T8.out.below hb9).up hb9.size)
          clear hb9 M8 T8
          rw [show byteL ⟨#[110, 111, 110, 99, 101]⟩ = NONCE from rfl, GL.out NONCE (by decide)]
          generalize gotF l NONCE = gn at *
          go_wp2_with fail
          refine (gets_any A n c (l.map prmOf) _ _ M9.out.p HN.out PS.out hN (by decide)).mono ?_
          rintro e w10 ⟨rfl, hb10⟩
          have M10 := Lib.hid (M9.out.below hb10)
          have T10 := Lib.hid ((T9.out.below hb10).up hb10.size)
          clear hb10 M9 T9
          rw [show byteL ⟨#[111, 112, 97, 113, 117, 101]⟩ = OPAQUE from rfl, GL.out OPAQUE (by decide)]
          generalize gotF l OPAQUE = gp at *
          go_wp2_with fail
          refine (among_any A2 n2 c2 zs _ _ T10.out HN2.out (by omega)).mono ?_
          rintro e w8 ⟨rfl, rfl⟩
          rw [CI.out]
          generalize (wordsL gq).contains AUTHI = ci at *
          clear CI
          go_wp2_with fail
          refine (gets_any A n c (l.map prmOf) _ _ M10.out.p HN.out PS.out hN (by decide)).mono ?_
          rintro e w11 ⟨rfl, hb11⟩
          have M11 := Lib.hid (M10.out.below hb11)
          clear hb11 M10 T10
          rw [show byteL ⟨#[115, 116, 97, 108, 101]⟩ = STALE from rfl, GL.out STALE (by decide)]
          generalize gotF l STALE = gs at *
          go_wp2_with fail
          refine (reflower_any _ _ (by rw [num_size]; exact SO.out.2)).mono ?_
          rintro e w12 ⟨rfl, hb12⟩
          have M5 := Lib.hid (M11.out.below hb12)
          clear hb12 M11
          rw [byteL_str SO.out.1]
          have BS := Lib.hid (lowS_by SO.out.1)
          have DS := Lib.hid (show (strOfNums (lowS gs)).toList = [116, 114, 117, 101] ↔ lowS gs = TRUE from lit_eq BS.out _)
          generalize lowS gs = LS at *
          by_cases hT : LS = TRUE
          · have q := DS.out.2 hT
            have E := Lib.hid (VY.out ⟨gr, gn, gp, ci, true⟩ (PE2.out.trans (by rw [hT]; rfl)))
            clear hT PE2
            go_wp2_with (with_reducible refine wpList_storeR rfl 23 (.tmp 2) (.tmp 46) rfl M5.out.r [.string (strOfNums gr), .string (strOfNums gn), .string (strOfNums gp), .bool ci, .bool true] rfl rfl (lenL5 _ _ _ _ _ _ _ _ _ _) (sizeL5 _ _ _ _ _) (p5_one _ _ _ _ _) M5.out.bw (Nat.le_refl _) ?_)
            intro w6 R6 B6 _
            go_wp2_with fail
            exact bodyPost_ret (results_ct rfl _ _ _ w.heap.size [.string (strOfNums gr), .string (strOfNums gn), .string (strOfNums gp), .bool ci, .bool true] _ rfl R6.out.range Tryd.underlying23 rfl size5) rfl ⟨by rw [E.out]; rfl, B6.out⟩
          · have q : ((strOfNums LS).toList == ([116, 114, 117, 101] : List UInt8)) = false := by
              rw [Bool.eq_false_iff]; intro h; exact hT (DS.out.1 (by simpa using h))
            have E := Lib.hid (VY.out ⟨gr, gn, gp, ci, false⟩ (PE2.out.trans (by
              rw [show (LS == TRUE) = false by rw [Bool.eq_false_iff]; intro h; exact hT (by simpa using h)])))
            clear hT PE2
            go_wp2_with (with_reducible refine wpList_storeR rfl 23 (.tmp 2) (.tmp 46) rfl M5.out.r [.string (strOfNums gr), .string (strOfNums gn), .string (strOfNums gp), .bool ci, .bool false] rfl rfl (lenL5 _ _ _ _ _ _ _ _ _ _) (sizeL5 _ _ _ _ _) (p5_one _ _ _ _ _) M5.out.bw (Nat.le_refl _) ?_)
            intro w6 R6 B6 _
            go_wp2_with fail
            exact bodyPost_ret (results_ct rfl _ _ _ w.heap.size [.string (strOfNums gr), .string (strOfNums gn), .string (strOfNums gp), .bool ci, .bool false] _ rfl R6.out.range Tryd.underlying23 rfl size5) rfl ⟨by rw [E.out]; rfl, B6.out⟩
      · have q : ((strOfNums LW).toList == ([115, 104, 97, 45, 50, 53, 54] : List UInt8)) = false := by
          rw [Bool.eq_false_iff]; intro h; exact hD (DQ.out.1 (by simpa using h))
        have E := Lib.hid (VB.out 15 (PE1.out.trans (if_pos (.inl hD))))
        clear hD
        go_wp2_with (with_reducible refine wpList_storeR rfl 23 (.tmp 2) (.tmp 33) rfl M7.out.r Z5 rfl rfl (lenL5 _ _ _ _ _ _ _ _ _ _) (sizeL5 _ _ _ _ _) (p5_one _ _ _ _ _) M7.out.bw (Nat.le_refl _) ?_)
        intro w3 R3 B3 _
        go_wp2_with fail
        exact bodyPost_ret (results_ct rfl _ _ _ w.heap.size Z5 _ rfl R3.out.range Tryd.underlying23 rfl size5) rfl ⟨by rw [E.out]; rfl, B3.out⟩
end Go.Proofs.YtfhbpgickkibmaaDoor
