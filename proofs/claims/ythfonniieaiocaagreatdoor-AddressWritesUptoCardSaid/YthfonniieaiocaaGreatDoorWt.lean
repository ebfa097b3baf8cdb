/- Contract: address.PrintParams. -/
import Derived.Test.YthfonniieaiocaaGreatDoorYa
import Derived.BigQuiet
import Derived.Deep.CutBlock
import Derived.Deep.DeepCutAuto
set_option linter.unusedVariables false
set_option linter.unusedSimpArgs false
namespace Go.Proofs.YthfonniieaiocaaGreatDoor
open Go.RowKit

theorem ppsN_cons (p : Pm) (r sn : List Pm) : ppsN (p :: r) sn = if holdsL sn p.n = true then none else match pmV p, ppsN r (sn ++ [p]) with
    | some t, some s => some (t ++ s)
    | _, _ => none := rfl
theorem pps_step {l : List Pm} {k : Nat} {p : Pm} {xs : List Int} {R : Option (List Int)} (hp : l[k]? = some p) (h : R = (ppsN (l.drop k) (l.take k)).map fun s => xs ++ s) :
    (holdsL (l.take k) p.n = true → R = none) ∧ (pmV p = none → R = none) ∧ ∀ t, holdsL (l.take k) p.n = false → pmV p = some t → R = (ppsN (l.drop (k + 1)) (l.take (k + 1))).map fun s => (xs ++ t) ++ s := by
  have ht : l.take (k + 1) = l.take k ++ [p] := by rw [List.take_add_one, hp]; rfl
  rw [dropPm hp, ppsN_cons, ← ht] at h
  refine ⟨fun h1 => ?_, fun h2 => ?_, fun t h1 h2 => ?_⟩
  · rw [h, if_pos h1]; rfl
  · rw [h, h2]
    split
    · rfl
    · rfl
  · rw [h, if_neg (by rw [h1]; decide), h2]
    cases ppsN (l.drop (k + 1)) (l.take (k + 1)) with
    | none => rfl
    | some s => simp
theorem pms_take (l : List Pm) (k : Nat) : pms l = pms (l.take k) ++ pms (l.drop k) := by
  conv => lhs; rw [← List.take_append_drop k l]
  unfold pms
  rw [List.flatMap_append]
theorem rds_take {w : World} {B : Nat} {A : Option Addr} {l : List Pm} (h : Rds w B A (pms l)) (k : Nat) : Rds w B A (pms (l.take k)) := fun hn => by
  obtain ⟨b, o, e, hb, hc⟩ := h (by rw [pms_take l k, List.length_append]; omega)
  refine ⟨b, o, e, hb, fun j u hu => hc j u ?_⟩
  rw [pms_take l k, List.getElem?_append_left (List.getElem?_eq_some_iff.1 hu).1]
  exact hu
theorem pmV_tok {p : Pm} (h : isToken p.n = false) : pmV p = none := by unfold pmV; rw [if_pos (.inl h)]
theorem pmV_low {p : Pm} (h : lowS p.n ≠ p.n) : pmV p = none := by unfold pmV; rw [if_pos (.inr h)]
theorem pmV_has {n v : List Int} (h : isToken n = true) (h2 : lowS n = n) : pmV ⟨n, v, false⟩ = if v = [] then some (59 :: n) else none := by
  unfold pmV; rw [if_neg (by rintro (h3 | h3); rw [h] at h3; cases h3; exact h3 h2), if_pos rfl]
theorem pmV_val {n v : List Int} (h : isToken n = true) (h2 : lowS n = n) : pmV ⟨n, v, true⟩ = if isToken v = true ∨ brackL v = true then some (59 :: (n ++ 61 :: v)) else if clean v = true then some (59 :: (n ++ 61 :: quoteL v)) else none := by
  unfold pmV; rw [if_neg (by rintro (h3 | h3); rw [h] at h3; cases h3; exact h3 h2), if_neg (show ¬ (true = false) by decide)]
theorem by_cons {c : Int} {l : List Int} (h : 0 ≤ c ∧ c < 256) (hl : By l) : By (c :: l) := fun x hx => by
  rcases List.mem_cons.1 hx with rfl | hx
  · exact h
  · exact hl x hx
theorem quote_len (l : List Int) : (quoteL l).length ≤ 2 * l.length + 2 := by
  have := escL_len l
  unfold quoteL
  rw [List.length_cons, List.length_append, List.length_singleton]; omega
def valT (v : List Int) : List Int := if isToken v = true ∨ brackL v = true then v else quoteL v
set_option maxRecDepth 100000 in
set_option maxHeartbeats 8000000 in
theorem pprint_any (A : Option Addr) (n c : Nat) (l : List Pm) (w : World) (hA : Rds w w.heap.size A (pms l)) (hn : l.length = n) (hc : n ≤ c) (hN : n ≤ 16000000) (hl : ∀ p ∈ l, pmSz p) (hG : GM w) (hP : PT w) :
    Calls Tryz.prog 40 #[.slice A n c] w (PriP w (ppsL l)) := by
  have HN := kd hn; have HL := kd hl
  have HG := kd (fun w' (h : Below w.heap.size w w') => hG.below h); have HP := kd (fun w' (h : Below w.heap.size w w') => hP.below h)
  have RA := kd (fun wr (hb : Below w.heap.size w wr) => show Rds wr wr.heap.size A (pms l) from (hA.below hb).up hb.size)
  have RE := kd (show ppsL l = if 16 < n then none else ppsN l [] by subst hn; rfl)
  have BAD := kd (fun w' h hb => PriP.bad (w := w) (w' := w') (R := ppsL l) h hb)
  have GOOD := kd (fun w' s h hb => PriP.good (w := w) (w' := w') (R := ppsL l) (s := s) h hb)
  generalize PriP w (ppsL l) = PP at *
  generalize ppsL l = R at *
  clear hA hn hl hG hP
  go_enter Tryz.func40, Tryz.ntmps40
  by_cases h16 : 16 < n
  · have d0 : decide ((16 : Int) < (n : Int)) = true := by simp; omega
    have E := kd (RE.out.trans (if_pos h16))
    clear RE
    go_wp2_with fail
    first | exact BAD.out _ E.out (Below.refl _ _) | (go_ret2; exact BAD.out _ E.out (Below.refl _ _))
  have d0 : decide ((16 : Int) < (n : Int)) = false := by simp; omega
  have RE2 := kd (RE.out.trans (if_neg h16))
  have n16 : n ≤ 16 := by omega
  clear RE h16 hN
  have P0 := kd (BdR.new w w [] (Below.refl _ _) (fun r hr => by cases hr))
  go_upto_region 4 with (fail)
  generalize w.alloc (.cells #[.pointer none, .slice none 0 0] 107) = w1 at *
  obtain ⟨bb, hbb⟩ : ∃ b, w.heap.size = b := ⟨_, rfl⟩
  rw [hbb] at P0 ⊢
  clear hbb
  clear d0
  go_wp2_with fail
  go_loopw [17] (fun v wr => ∃ (k : Nat) (xs : List Int), k ≤ n ∧ v = .int .i64 k ∧ xs.length ≤ 13000000 * k ∧ Hid (R = (ppsN (l.drop k) (l.take k)).map fun s => xs ++ s) ∧ Hid (By xs) ∧ Hid (BdR w bb xs [] wr)) (fun v _ => n - (intOf v).toNat)
  case atStart => exact ⟨0, [], Nat.zero_le _, rfl, Nat.zero_le _, kd (by rw [RE2.out, List.drop_zero, List.take_zero]; cases ppsN l [] <;> rfl), kd (fun x hx => by cases hx), P0⟩
  case round =>
    clear P0 RE2
    obtain ⟨k, xs, hk, rfl, hxl, RX, XB, P⟩ := hrel
    by_cases hlt : k < n
    · have hd : decide (k < n) = true := by simp [hlt]
      have hd2 : decide ((k : Int) < (n : Int)) = true := by simp; omega
      obtain ⟨p, hp⟩ : ∃ p, l[k]? = some p := ⟨_, List.getElem?_eq_getElem (by rw [HN.out]; exact hlt)⟩
      obtain ⟨s1, s2, s3⟩ := pps_step hp RX.out
      have S1 := kd s1; have S2 := kd s2; have S3 := kd s3
      obtain ⟨x1, o1, rfl, hx1, hc1⟩ := RA.out wr P.out.bw (by rw [pms_len, HN.out]; omega)
      have G1 := kd (show wr.rangeAt x1 (o1 + k * 3) (pmC p) from fun i v hv => Rds.range2 hc1 (k * 3) _ (pms_at hp) i v hv)
      obtain ⟨pnb, pvb, pnl, pvl⟩ := HL.out p (List.mem_of_getElem? hp)
      clear hc1 hp s1 s2 s3
      obtain ⟨pn, pv, ph⟩ := p
      dsimp only at pnb pvb pnl pvl
      have G2 := kd (show wr.rangeAt x1 (o1 + k * 3) [.string (strOfNums pn), .string (strOfNums pv), .bool ph] from G1.out)
      have TK := kd (fun w => lexToken_any (strOfNums pn) w (by rw [num_size]; omega))
      rw [byteL_str pnb] at TK
      have LW := kd (fun w => adlower_any (strOfNums pn) w (by rw [num_size]; exact pnl))
      rw [byteL_str pnb] at LW
      have LQ := kd (toList_beq pnb (lowS_by pnb))
      have HO := kd (fun W (hb : Below w.heap.size w W) => holds_any (some ⟨x1, o1, none⟩) k c (l.take k) pn W (rds_take (RA.out W hb) k) (by rw [List.length_take, HN.out]; omega) (by omega) (fun p hp => (HL.out p (List.mem_of_mem_take hp)).1) pnb)
      have P1 := kd (P.out.alloc 56 [.string (strOfNums pn), .string (strOfNums pv), .bool ph] (by decide))
      have PNB := kd pnb; have PVB := kd pvb
      clear G1 pnb pvb P
      go_upto_region 7 with (with_reducible refine wpList_load_mid rfl 56 (.tmp 20) rfl x1 (o1 + k * 3) rfl [.string (strOfNums pn), .string (strOfNums pv), .bool ph] _ G2.out Tryz.underlying56 rfl (sizePm _ _ _) ?_)
      generalize wr.alloc (.cells #[.string (strOfNums pn), .string (strOfNums pv), .bool ph] 56) = w2 at *
      generalize wr.heap.size = pb at *
      clear G2
      have kc : (k : Int) ≤ (c : Int) := by omega
      go_cut [41] (fun v wx => v = .bool (!isToken pn || (!(lowS pn == pn) || holdsL (l.take k) pn)) ∧ Hid (Below w2.heap.size w2 wx))
      case first =>
        have q0 : ∀ x : BW w2, x.w.cell? ⟨pb, 0, none⟩ = some (.string (strOfNums pn)) := fun x => (P1.out.at (i := 0) rfl).later x 0
        have HO2 := kd (fun x : BW w2 => HO.out x.w (bthen P1.out.bw x.h))
        have LQ2 := kd (show ((strOfNums pn).toList == (strOfNums (lowS pn)).toList) = (lowS pn == pn) by
          rw [LQ.out, Bool.eq_iff_iff, beq_iff_eq, beq_iff_eq]
          exact eq_comm)
        generalize isToken pn = b1 at *
        generalize holdsL (l.take k) pn = b3 at *
        cases b1 with
        | false =>
          refine region_bw (by kernel_rfl) (by kernel_rfl) ?_
          iterate 2 go_big_quiet_step (fail)
          go_big_quiet_step (exact calls_bw (TK.out _))
          iterate 17 go_big_quiet_step (fail)
          refine wpQuiet_nil ?_
          rintro _ ⟨y, rfl⟩
          go_wp2_with fail
          go_meet
          exact ⟨rfl, kd y.h⟩
        | true =>
          have LQ3 := LQ2.out
          generalize (lowS pn == pn) = b2 at *
          cases b2 with
          | false =>
            refine region_bw (by kernel_rfl) (by kernel_rfl) ?_
            iterate 2 go_big_quiet_step (fail)
            go_big_quiet_step (exact calls_bw (TK.out _))
            iterate 6 go_big_quiet_step (fail)
            go_big_quiet_step (exact calls_bw (LW.out _))
            iterate 10 go_big_quiet_step (fail)
            refine wpQuiet_nil ?_
            rintro _ ⟨y, rfl⟩
            go_wp2_with fail
            go_meet
            exact ⟨rfl, kd y.h⟩
          | true =>
            refine region_bw (by kernel_rfl) (by kernel_rfl) ?_
            iterate 2 go_big_quiet_step (fail)
            go_big_quiet_step (exact calls_bw (TK.out _))
            iterate 6 go_big_quiet_step (fail)
            go_big_quiet_step (exact calls_bw (LW.out _))
            iterate 8 go_big_quiet_step (fail)
            go_big_quiet_step (exact calls_bw (HO2.out _))
            go_big_quiet_step (fail)
            refine wpQuiet_nil ?_
            rintro _ ⟨y, rfl⟩
            go_wp2_with fail
            go_meet
            exact ⟨rfl, kd y.h⟩
      case rest =>
      obtain ⟨rfl, hbc⟩ := hcut
      have P2 := kd (P1.out.call hbc.out)
      clear P1 hbc TK LW LQ HO kc
      generalize htn : isToken pn = tn at *
      generalize hln : (lowS pn == pn) = ln at *
      generalize hhn : holdsL (l.take k) pn = hn at *
      by_cases hbad : tn = true ∧ ln = true ∧ hn = false
      case neg =>
        have E := kd (show R = none by
          cases tn with
          | false => exact S2.out (pmV_tok htn)
          | true =>
            cases ln with
            | false => exact S2.out (pmV_low (by simpa using hln))
            | true =>
              cases hn with
              | true => exact S1.out rfl
              | false => exact absurd ⟨rfl, rfl, rfl⟩ hbad)
        have B := kd (show (!tn || (!ln || hn)) = true by revert hbad; cases tn <;> cases ln <;> cases hn <;> simp)
        rw [B.out]
        clear S1 S2 S3 hbad
        go_wp2_with fail
        first | exact BAD.out _ E.out P2.out.bw | (go_ret2; exact BAD.out _ E.out P2.out.bw)
      obtain ⟨rfl, rfl, rfl⟩ := hbad
      have LE := kd (show lowS pn = pn by simpa using hln)
      have VH := kd (pmV_has (n := pn) (v := pv) htn LE.out); have VE := kd (pmV_val (n := pn) (v := pv) htn LE.out)
      clear htn hln hhn S1
      have S1 := trivial
      have k0 : wc.cell? ⟨pb, 0, none⟩ = some (.string (strOfNums pn)) := (P2.out.at (i := 0) rfl).cell 0
      have PZ := num_size pn
      have A1 : ∀ w, (Op.stringOp .add (⟨#[59]⟩ : ByteArray) (strOfNums pn)).run Tryz.prog w = .ok (.string (strOfNums (59 :: pn))) w := fun w => by
        rw [run_string_add_sum (P := Tryz.prog) w _ _ (by show 1 + (strOfNums pn).size ≤ _; omega), show (⟨#[59]⟩ : ByteArray) = strOfNums [59] from rfl, str_app]; rfl
      go_wp2_with fail
      refine (bput_any P2.out (by omega) (s := strOfNums (59 :: pn)) (ys := 59 :: pn) (byteL_str (by_cons (by omega) PNB.out)) (by simp; omega)).mono ?_
      rintro _ w4 ⟨rfl, hp4⟩
      have P4 := kd hp4
      have XB2 := kd (show By (xs ++ (59 :: pn)) from fun c hc => by
        rcases List.mem_append.1 hc with hc | hc
        · exact XB.out c hc
        · exact by_cons (by omega) PNB.out c hc)
      clear hp4 P2 k0 A1
      have k1 : w4.cell? ⟨pb, 1, none⟩ = some (.string (strOfNums pv)) := (P4.out.at (i := 0) rfl).cell 1
      have k2 : w4.cell? ⟨pb, 2, none⟩ = some (.bool ph) := (P4.out.at (i := 0) rfl).cell 2
      cases ph with
      | false =>
        have EV := empty_beq pv
        by_cases hv : pv = []
        · have E := kd (S3.out _ trivial (VH.out.trans (if_pos hv)))
          have q1 : ((strOfNums pv).toList == ([] : List UInt8)) = true := by rw [EV, hv]; rfl
          clear S2 S3 VH VE EV hv
          go_wp2_with fail
          have PT := kd P4.out.tail
          go_roundw
          case rel => exact ⟨k + 1, xs ++ (59 :: pn), by omega, by go_num, by simp; omega, E, XB2, PT⟩
          case measure => simp [intOf]; omega
        · have E := kd (S2.out (VH.out.trans (if_neg hv)))
          have q1 : ((strOfNums pv).toList == ([] : List UInt8)) = false := by rw [EV]; simpa using hv
          clear S2 S3 VH VE EV hv
          go_wp2_with fail
          first | exact BAD.out _ E.out P4.out.bw | (go_ret2; exact BAD.out _ E.out P4.out.bw)
      | true =>
      have HO := kd (fun w hg hp => adhost_any (strOfNums pv) w (by rw [num_size]; exact pvl) hg hp)
      rw [byteL_str PVB.out] at HO
      have TV := kd (fun w => lexToken_any (strOfNums pv) w (by rw [num_size]; omega))
      rw [byteL_str PVB.out] at TV
      have QV := kd (fun w => quote_any (strOfNums pv) w (by rw [num_size]; exact pvl))
      rw [byteL_str PVB.out] at QV
      have HQ := kd (fun h (e : hostL pv = some h) => toList_beq (host_by e PVB.out) PVB.out)
      have HNE := kd (fun h (e : hostL pv = some h) => show 1 ≤ pv.length by
        cases pv with
        | nil => rw [show hostL [] = none by decide] at e; cases e
        | cons a r => simp)
      have J0 := kd (fun (h : 1 ≤ pv.length) => fun w => idx_str (strOfNums pv) (i := 0) (by rw [num_size]; omega) (z := 0) rfl w)
      rw [byteL_str PVB.out] at J0
      have BE := kd (show brackL pv = ((hostL pv == some pv) && pv.getD 0 0 == 91) from rfl)
      have PVZ := num_size pv
      clear VH
      generalize hbr : brackL pv = br at *
      generalize htk : isToken pv = tk at *
      cases tk with
      | true =>
        have E := kd (S3.out _ trivial (VE.out.trans (if_pos (.inl rfl))))
        have VB := PVB
        obtain ⟨ht, hokk, eHV⟩ : ∃ t b, hostV (hostL pv) = .tuple #[.string t, .bool b] := by cases hostL pv <;> exact ⟨_, _, rfl⟩
        rw [eHV] at HO
        clear S2 S3 VE BE J0 HQ HNE eHV
        go_wp2_with fail
        refine (HO.out _ (HG.out _ P4.out.bw) (HP.out _ P4.out.bw)).mono ?_
        rintro _ w5 ⟨rfl, hb5⟩
        have P5 := kd (P4.out.call hb5)
        clear hb5
        go_wp2_with fail
        refine (TV.out _).mono ?_
        rintro _ w6 ⟨rfl, hb6⟩
        have P6 := kd (P5.out.call hb6)
        clear hb6 P5
        have YZ := num_size (pv)
        have A2 : ∀ w, (Op.stringOp .add (⟨#[61]⟩ : ByteArray) (strOfNums (pv))).run Tryz.prog w = .ok (.string (strOfNums (61 :: (pv)))) w := fun w => by
          rw [run_string_add_sum (P := Tryz.prog) w _ _ (by show 1 + (strOfNums (pv)).size ≤ _; omega), show (⟨#[61]⟩ : ByteArray) = strOfNums [61] from rfl, str_app]; rfl
        go_wp2_with fail
        refine (bput_any P6.out (by simp; omega) (s := strOfNums (61 :: (pv))) (ys := 61 :: (pv)) (byteL_str (by_cons (by omega) VB.out)) (by simp; omega)).mono ?_
        rintro _ w7 ⟨rfl, hp7⟩
        have PT := kd hp7.tail
        clear hp7 A2
        go_wp2_with fail
        go_roundw
        case rel => exact ⟨k + 1, (xs ++ (59 :: pn)) ++ (61 :: (pv)), by omega, by go_num, by simp; omega, kd (by rw [E.out]; simp), kd (fun c hc => by
          rcases List.mem_append.1 hc with hc | hc
          · exact XB2.out c hc
          · exact by_cons (by omega) VB.out c hc), PT⟩
        case measure => simp [intOf]; omega
      | false =>
        cases hh : hostL pv with
        | none =>
          have hbr2 : br = false := by rw [BE.out, hh]; rfl
          rw [hh, show hostV none = .tuple #[.string ⟨#[]⟩, .bool false] from rfl] at HO
          subst hbr2
          clear BE J0 HQ HNE hh
          go_wp2_with fail
          refine (HO.out _ (HG.out _ P4.out.bw) (HP.out _ P4.out.bw)).mono ?_
          rintro _ w5 ⟨rfl, hb5⟩
          have P5 := kd (P4.out.call hb5)
          clear hb5
          go_wp2_with fail
          refine (TV.out _).mono ?_
          rintro _ w6 ⟨rfl, hb6⟩
          have P6 := kd (P5.out.call hb6)
          clear hb6 P5
          cases hcl : clean pv with
          | false =>
            have E := kd (S2.out (VE.out.trans ((if_neg (by rintro (h | h) <;> cases h)).trans (if_neg (by rw [hcl]; decide)))))
            rw [quoteV_no hcl] at QV
            clear S1 S2 S3 VE hcl
            go_wp2_with fail
            refine (QV.out _).mono ?_
            rintro _ w8 ⟨rfl, hb8⟩
            have P8 := kd (P6.out.call hb8)
            clear hb8 P6
            go_wp2_with fail
            first | exact BAD.out _ E.out P8.out.bw | (go_ret2; exact BAD.out _ E.out P8.out.bw)
          | true =>
            have E := kd (S3.out _ trivial (VE.out.trans ((if_neg (by rintro (h | h) <;> cases h)).trans (if_pos hcl))))
            have VB := kd (quoteL_by PVB.out)
            have VL : (quoteL pv).length ≤ 8000002 := by have := quote_len pv; omega
            rw [quoteV_yes hcl] at QV
            clear S1 S2 S3 VE hcl
            go_wp2_with fail
            refine (QV.out _).mono ?_
            rintro _ w8 ⟨rfl, hb8⟩
            have P8 := kd (P6.out.call hb8)
            clear hb8 P6
            have YZ := num_size (quoteL pv)
            have A2 : ∀ w, (Op.stringOp .add (⟨#[61]⟩ : ByteArray) (strOfNums (quoteL pv))).run Tryz.prog w = .ok (.string (strOfNums (61 :: (quoteL pv)))) w := fun w => by
              rw [run_string_add_sum (P := Tryz.prog) w _ _ (by show 1 + (strOfNums (quoteL pv)).size ≤ _; omega), show (⟨#[61]⟩ : ByteArray) = strOfNums [61] from rfl, str_app]; rfl
            go_wp2_with fail
            refine (bput_any P8.out (by simp; omega) (s := strOfNums (61 :: (quoteL pv))) (ys := 61 :: (quoteL pv)) (byteL_str (by_cons (by omega) VB.out)) (by simp; omega)).mono ?_
            rintro _ w7 ⟨rfl, hp7⟩
            have PT := kd hp7.tail
            clear hp7 A2
            go_wp2_with fail
            go_roundw
            case rel => exact ⟨k + 1, (xs ++ (59 :: pn)) ++ (61 :: (quoteL pv)), by omega, by go_num, by simp; omega, kd (by rw [E.out]; simp), kd (fun c hc => by
              rcases List.mem_append.1 hc with hc | hc
              · exact XB2.out c hc
              · exact by_cons (by omega) VB.out c hc), PT⟩
            case measure => simp [intOf]; omega
        | some h =>
          have BE2 := kd (show br = ((h == pv) && pv.getD 0 0 == 91) by rw [BE.out, hh]; rfl)
          have q2 := HQ.out h hh
          have j0 := J0.out (HNE.out h hh)
          rw [hh, show hostV (some h) = .tuple #[.string (strOfNums h), .bool true] from rfl] at HO
          clear BE J0 HQ HNE hh
          by_cases he : h = pv
          · subst he
            have BE3 := kd (show br = (h.getD 0 0 == 91) by rw [BE2.out]; simp)
            generalize h.getD 0 0 = c0 at *
            clear BE2 q2
            cases hc : (c0 == 91) with
            | true =>
              have hbr2 : br = true := by rw [BE3.out, hc]
              have E := kd (S3.out _ trivial (VE.out.trans (if_pos (.inr hbr2))))
              have VB := PVB
              clear S2 S3 VE BE3
              go_wp2_with fail
              refine (HO.out _ (HG.out _ P4.out.bw) (HP.out _ P4.out.bw)).mono ?_
              rintro _ w5 ⟨rfl, hb5⟩
              have P5 := kd (P4.out.call hb5)
              clear hb5
              go_wp2_with fail
              refine (TV.out _).mono ?_
              rintro _ w6 ⟨rfl, hb6⟩
              have P6 := kd (P5.out.call hb6)
              clear hb6 P5
              have YZ := num_size (h)
              have A2 : ∀ w, (Op.stringOp .add (⟨#[61]⟩ : ByteArray) (strOfNums (h))).run Tryz.prog w = .ok (.string (strOfNums (61 :: (h)))) w := fun w => by
                rw [run_string_add_sum (P := Tryz.prog) w _ _ (by show 1 + (strOfNums (h)).size ≤ _; omega), show (⟨#[61]⟩ : ByteArray) = strOfNums [61] from rfl, str_app]; rfl
              go_wp2_with fail
              refine (bput_any P6.out (by simp; omega) (s := strOfNums (61 :: (h))) (ys := 61 :: (h)) (byteL_str (by_cons (by omega) VB.out)) (by simp; omega)).mono ?_
              rintro _ w7 ⟨rfl, hp7⟩
              have PT := kd hp7.tail
              clear hp7 A2
              go_wp2_with fail
              go_roundw
              case rel => exact ⟨k + 1, (xs ++ (59 :: pn)) ++ (61 :: (h)), by omega, by go_num, by simp; omega, kd (by rw [E.out]; simp), kd (fun c hc => by
                rcases List.mem_append.1 hc with hc | hc
                · exact XB2.out c hc
                · exact by_cons (by omega) VB.out c hc), PT⟩
              case measure => simp [intOf]; omega
            | false =>
              have hbr2 : br = false := by rw [BE3.out, hc]
              subst hbr2
              clear BE3
              go_wp2_with fail
              refine (HO.out _ (HG.out _ P4.out.bw) (HP.out _ P4.out.bw)).mono ?_
              rintro _ w5 ⟨rfl, hb5⟩
              have P5 := kd (P4.out.call hb5)
              clear hb5
              go_wp2_with fail
              refine (TV.out _).mono ?_
              rintro _ w6 ⟨rfl, hb6⟩
              have P6 := kd (P5.out.call hb6)
              clear hb6 P5
              cases hcl : clean h with
              | false =>
                have E := kd (S2.out (VE.out.trans ((if_neg (by rintro (h | h) <;> cases h)).trans (if_neg (by rw [hcl]; decide)))))
                rw [quoteV_no hcl] at QV
                clear S1 S2 S3 VE hcl
                go_wp2_with fail
                refine (QV.out _).mono ?_
                rintro _ w8 ⟨rfl, hb8⟩
                have P8 := kd (P6.out.call hb8)
                clear hb8 P6
                go_wp2_with fail
                first | exact BAD.out _ E.out P8.out.bw | (go_ret2; exact BAD.out _ E.out P8.out.bw)
              | true =>
                have E := kd (S3.out _ trivial (VE.out.trans ((if_neg (by rintro (h | h) <;> cases h)).trans (if_pos hcl))))
                have VB := kd (quoteL_by PVB.out)
                have VL : (quoteL h).length ≤ 8000002 := by have := quote_len h; omega
                rw [quoteV_yes hcl] at QV
                clear S1 S2 S3 VE hcl
                go_wp2_with fail
                refine (QV.out _).mono ?_
                rintro _ w8 ⟨rfl, hb8⟩
                have P8 := kd (P6.out.call hb8)
                clear hb8 P6
                have YZ := num_size (quoteL h)
                have A2 : ∀ w, (Op.stringOp .add (⟨#[61]⟩ : ByteArray) (strOfNums (quoteL h))).run Tryz.prog w = .ok (.string (strOfNums (61 :: (quoteL h)))) w := fun w => by
                  rw [run_string_add_sum (P := Tryz.prog) w _ _ (by show 1 + (strOfNums (quoteL h)).size ≤ _; omega), show (⟨#[61]⟩ : ByteArray) = strOfNums [61] from rfl, str_app]; rfl
                go_wp2_with fail
                refine (bput_any P8.out (by simp; omega) (s := strOfNums (61 :: (quoteL h))) (ys := 61 :: (quoteL h)) (byteL_str (by_cons (by omega) VB.out)) (by simp; omega)).mono ?_
                rintro _ w7 ⟨rfl, hp7⟩
                have PT := kd hp7.tail
                clear hp7 A2
                go_wp2_with fail
                go_roundw
                case rel => exact ⟨k + 1, (xs ++ (59 :: pn)) ++ (61 :: (quoteL h)), by omega, by go_num, by simp; omega, kd (by rw [E.out]; simp), kd (fun c hc => by
                  rcases List.mem_append.1 hc with hc | hc
                  · exact XB2.out c hc
                  · exact by_cons (by omega) VB.out c hc), PT⟩
                case measure => simp [intOf]; omega
          · have hbr2 : br = false := by rw [BE2.out, show (h == pv) = false by simpa using he]; rfl
            rw [show (h == pv) = false by simpa using he] at q2
            subst hbr2
            clear BE2 he j0
            go_wp2_with fail
            refine (HO.out _ (HG.out _ P4.out.bw) (HP.out _ P4.out.bw)).mono ?_
            rintro _ w5 ⟨rfl, hb5⟩
            have P5 := kd (P4.out.call hb5)
            clear hb5
            go_wp2_with fail
            refine (TV.out _).mono ?_
            rintro _ w6 ⟨rfl, hb6⟩
            have P6 := kd (P5.out.call hb6)
            clear hb6 P5
            cases hcl : clean pv with
            | false =>
              have E := kd (S2.out (VE.out.trans ((if_neg (by rintro (h | h) <;> cases h)).trans (if_neg (by rw [hcl]; decide)))))
              rw [quoteV_no hcl] at QV
              clear S1 S2 S3 VE hcl
              go_wp2_with fail
              refine (QV.out _).mono ?_
              rintro _ w8 ⟨rfl, hb8⟩
              have P8 := kd (P6.out.call hb8)
              clear hb8 P6
              go_wp2_with fail
              first | exact BAD.out _ E.out P8.out.bw | (go_ret2; exact BAD.out _ E.out P8.out.bw)
            | true =>
              have E := kd (S3.out _ trivial (VE.out.trans ((if_neg (by rintro (h | h) <;> cases h)).trans (if_pos hcl))))
              have VB := kd (quoteL_by PVB.out)
              have VL : (quoteL pv).length ≤ 8000002 := by have := quote_len pv; omega
              rw [quoteV_yes hcl] at QV
              clear S1 S2 S3 VE hcl
              go_wp2_with fail
              refine (QV.out _).mono ?_
              rintro _ w8 ⟨rfl, hb8⟩
              have P8 := kd (P6.out.call hb8)
              clear hb8 P6
              have YZ := num_size (quoteL pv)
              have A2 : ∀ w, (Op.stringOp .add (⟨#[61]⟩ : ByteArray) (strOfNums (quoteL pv))).run Tryz.prog w = .ok (.string (strOfNums (61 :: (quoteL pv)))) w := fun w => by
                rw [run_string_add_sum (P := Tryz.prog) w _ _ (by show 1 + (strOfNums (quoteL pv)).size ≤ _; omega), show (⟨#[61]⟩ : ByteArray) = strOfNums [61] from rfl, str_app]; rfl
              go_wp2_with fail
              refine (bput_any P8.out (by simp; omega) (s := strOfNums (61 :: (quoteL pv))) (ys := 61 :: (quoteL pv)) (byteL_str (by_cons (by omega) VB.out)) (by simp; omega)).mono ?_
              rintro _ w7 ⟨rfl, hp7⟩
              have PT := kd hp7.tail
              clear hp7 A2
              go_wp2_with fail
              go_roundw
              case rel => exact ⟨k + 1, (xs ++ (59 :: pn)) ++ (61 :: (quoteL pv)), by omega, by go_num, by simp; omega, kd (by rw [E.out]; simp), kd (fun c hc => by
                rcases List.mem_append.1 hc with hc | hc
                · exact XB2.out c hc
                · exact by_cons (by omega) VB.out c hc), PT⟩
              case measure => simp [intOf]; omega
    · obtain rfl : k = n := by omega
      have hd2 : decide ((k : Int) < (k : Int)) = false := by simp
      have E := kd (show R = some xs by rw [RX.out, List.drop_of_length_le (by rw [HN.out]; exact Nat.le_refl _)]; simp [ppsN])
      clear RX
      go_wp2_with fail
      refine (bstring_any w _ bb _ _ P.out XB.out).mono ?_
      rintro _ w9 ⟨rfl, hb9⟩
      have B9 := kd hb9
      clear hb9 P
      go_wp2_with fail
      first | exact GOOD.out _ _ E.out B9.out | (go_ret2; exact GOOD.out _ _ E.out B9.out)
end Go.Proofs.YthfonniieaiocaaGreatDoor
