/- Contract: the reference's reader: user. And what stands behind it. -/
import Derived.Test.YthfonniieaiocaaGreatDoorXl
import Derived.Lib.MinMax
set_option linter.unusedVariables false
set_option linter.unusedSimpArgs false
namespace Go.Proofs.YthfonniieaiocaaGreatDoor
open Go.RowKit

theorem OX.form {w wr : World} {v : Value} {xs : List Int} (H : OX w v xs wr) : ∃ A c, v = .slice A xs.length c := by
  rcases H.o.2 with ⟨h0, h1⟩ | ⟨g, cap, cur, h1, _⟩
  · rw [h1, h0]; exact ⟨_, _, rfl⟩
  · exact ⟨_, _, h1⟩
theorem own_rdx {wr w5 : World} {B b n : Nat} {v : Value} {cs : List Value} (H : wr.ownsRow B 5 1 v n cs) (g : wr.grownBy w5 (some b)) (hb : b < B) : w5.ownsRow B 5 1 v n cs := by
  refine ⟨H.1, ?_⟩
  rcases H.2 with h0 | ⟨k, cap, cur, h1, h2, h3, h4⟩
  · exact .inl h0
  · exact .inr ⟨k, cap, cur, h1, h2, (g.block k (lt_of_block h3) (fun e => by injection e with e; omega)).trans h3, h4⟩
theorem own_elder {wr : World} {B b n o : Nat} {v u : Value} {cs : List Value} (H : wr.ownsRow B 5 1 v n cs) (hb : b < B) : (wr.setCell ⟨b, o, none⟩ u).ownsRow B 5 1 v n cs := own_rdx H (rgr_set _ _ _ _) hb
def phE (a k : Nat) (PL : List Int) : Except Nat (List Int) → Except (Nat × Int) (List Int × Nat)
  | .error i => .error (i, 5)
  | .ok d => if d = [] then .error (a, 5) else if 30 < d.length then .error (a, 4) else .ok (PL ++ d, k)
theorem phone_at {xs : List Int} {a k b0 : Nat} {sg : Bool} {T : Except Nat (List Int)} {PL : List Int} (hk : untilL xs a [59] = k) (hs : atL xs a 43 = sg) (hb : (if sg = true then a + 1 else a) = b0) (hT : telN (xs.take k) sg (xs.length + 1) b0 [] = T) (hP : (if sg = true then [43] else []) = PL) : phoneL xs a = phE a k PL T := by
  subst hk hs hb hT hP
  unfold phoneL phE
  dsimp only
  cases telN (xs.take (untilL xs a [59])) (atL xs a 43) (xs.length + 1) (if atL xs a 43 = true then a + 1 else a) [] with
  | error i => rfl
  | ok d => rfl
theorem pho_err {xs : List Int} {a i : Nat} {T : ByteArray} (ha : a ≤ xs.length) (h : phoneL xs a = .error (i, 5)) : PhoX xs a T (i, 5) a := ⟨ha, by rw [h]⟩
theorem pho_end {xs d : List Int} {a k : Nat} {PL : List Int} (hk : k ≤ xs.length) (h : phoneL xs a = if d = [] then .error (a, 5) else if 30 < d.length then .error (a, 4) else .ok (PL ++ d, k)) :
    PhoX xs a (strOfNums (PL ++ d)) (if d.length < 1 then (a, 5) else if 30 < d.length then (a, 4) else (0, 0)) k := by
  refine ⟨hk, ?_⟩
  rw [h]
  by_cases h0 : d = []
  · subst h0
    rw [if_pos rfl]; rfl
  · have hd : ¬ d.length < 1 := fun h => h0 (List.eq_nil_of_length_eq_zero (by omega))
    rw [if_neg h0, if_neg hd]
    by_cases h1 : 30 < d.length
    · rw [if_pos h1, if_pos h1]
    · rw [if_neg h1, if_neg h1]; exact ⟨rfl, rfl, rfl⟩
theorem telS_has (c : Int) : (byteL ⟨#[45, 46, 40, 41]⟩).contains c = telS c := by
  rw [show byteL ⟨#[45, 46, 40, 41]⟩ = [45, 46, 40, 41] by rfl, Bool.eq_iff_iff]
  unfold telS
  simp
def TeR (w : World) (s : ByteArray) (i k b0 : Nat) (Z PL : List Int) (sg : Bool) (T : Except Nat (List Int)) (v : Value) (j : Nat) (wr : World) : Prop :=
  ∃ (l : List Int), i ≤ j ∧ j ≤ k ∧ l.length ≤ j ∧ Hid (OX w v l wr) ∧ ((sg = true ∧ j = i ∧ l = []) ∨ (∃ f acc, b0 ≤ j ∧ s.size + 1 ≤ f + j ∧ Hid (l = PL ++ acc) ∧ Hid (T = telN Z sg f j acc)))
set_option maxRecDepth 100000 in
set_option maxHeartbeats 4000000 in
theorem rtel_any (w : World) (b i : Nat) (s : ByteArray) (h : RdR w b s i (0, 0)) (hi : i ≤ s.size) (hs : s.size ≤ 4000000) :
    Calls Tryz.prog 79 #[.pointer (some ⟨b, 0, none⟩)] w fun e w' => ∃ T z j, e = .returned (.string T) ∧ RdX w b s j z w' ∧ PhoX (byteL s) i T z j := by
  have HL := kd (byteL_len s)
  have HR := kd h
  have k1 := h.cell 1
  simp only [rdC, List.getElem?_cons_succ, List.getElem?_cons_zero] at k1
  have UN := kd (runtil_any w b i s ⟨#[59]⟩ (0, 0) h hi hs (by decide))
  rw [show byteL ⟨#[59]⟩ = [59] by rfl] at UN
  have IS := kd (ris_any w b i s (0, 0) 43 h)
  rw [isQ_at] at IS
  have UL := until_le (xs := byteL s) (a := i) (st := [59]) (by rw [HL.out]; exact hi)
  rw [HL.out] at UL
  obtain ⟨k, hk⟩ : ∃ k, untilL (byteL s) i [59] = k := ⟨_, rfl⟩
  obtain ⟨sg, hsg⟩ : ∃ sg, atL (byteL s) i 43 = sg := ⟨_, rfl⟩
  obtain ⟨b0, hb0⟩ : ∃ b0, (if sg = true then i + 1 else i) = b0 := ⟨_, rfl⟩
  obtain ⟨T, hT⟩ : ∃ T, telN ((byteL s).take k) sg ((byteL s).length + 1) b0 [] = T := ⟨_, rfl⟩
  obtain ⟨PL, hPL⟩ : ∃ PL : List Int, (if sg = true then [43] else []) = PL := ⟨_, rfl⟩
  have PE := kd (phone_at hk hsg hb0 hT hPL)
  have SG := kd (show sg = true → (byteL s).getD i 0 = 43 ∧ i + 1 ≤ k from fun e => by
    subst e
    obtain ⟨h1, h2⟩ := atL_lt (by rw [hsg]; decide)
    refine ⟨h2, ?_⟩
    rw [← hk]
    exact until_succ h1 (by rw [h2]; rfl))
  have ERR := kd (fun (j : Nat) (h : phoneL (byteL s) i = .error (j, 5)) => pho_err (T := ⟨#[]⟩) (by rw [HL.out]; exact hi) h)
  rw [hk] at UL UN
  rw [hsg] at IS
  have END := kd (fun (d : List Int) h => pho_end (xs := byteL s) (d := d) (a := i) (k := k) (PL := PL) (by rw [HL.out]; exact UL.2) h)
  have ZL := kd (show ((byteL s).take k).length = k by rw [List.length_take, HL.out]; omega)
  have ZG := kd (fun j (h : j < k) => show ((byteL s).take k).getD j 0 = (byteL s).getD j 0 from getD_take h)
  have TE := kd hT.symm
  rw [HL.out] at TE
  have HB0 := kd hb0; have HPL := kd hPL
  obtain ⟨ul1, ul2⟩ := UL
  have es : (k : Int) ≤ (s.size : Int) := by omega
  clear hT hk hsg hb0 hPL h
  generalize (byteL s).take k = Z at *
  generalize phoneL (byteL s) i = R at *
  go_enter Tryz.func79, Tryz.ntmps79
  go_upto_region 4 with (first
    | (go_at_call 74; refine UN.out.mono ?_; rintro _ w1 ⟨rfl, rfl⟩)
    | (go_at_call 141; refine IS.out.mono ?_; rintro _ w1 ⟨rfl, hb1⟩))
  clear UN IS k1
  have k1 : w1.cell? ⟨b, 1, none⟩ = some (.int .i64 (i : Nat)) := (HR.out.below hb1).cell 1
  have B1 := kd hb1
  clear hb1
  go_upto_region 6 with (fail)
  clear k1
  go_loopw [6, 7] (fun v vj wr => ∃ (j : Nat) (v' : Value), v' = v ∧ vj = .int .i64 j ∧ Hid (TeR w s i k b0 Z PL sg T v' j wr)) (fun _ v _ => k - (intOf v).toNat)
  case atStart =>
    refine ⟨i, _, rfl, rfl, kd ⟨[], Nat.le_refl _, ul1, Nat.zero_le _, kd ⟨World.ownsRow_nil _ _ _ _, B1.out⟩, ?_⟩⟩
    cases sg with
    | true => exact .inl ⟨rfl, rfl, rfl⟩
    | false =>
      have e1 := HB0.out; have e2 := HPL.out
      rw [if_neg (by decide)] at e1 e2
      subst e1 e2
      exact .inr ⟨s.size + 1, [], Nat.le_refl _, by omega, kd rfl, TE.out⟩
  case round =>
    obtain ⟨j, v, rfl, rfl, HT⟩ := hrel
    obtain ⟨l, hij, hjk, hl, HO, HC⟩ := HT.out
    clear HT B1
    have R1 := kd ((RdX.refl HR.out).call HO.out.bw)
    have k0 := R1.out.r.cell 0
    simp only [rdC, List.getElem?_cons_succ, List.getElem?_cons_zero] at k0
    by_cases hlt : j < k
    · have hd : decide ((j : Int) < (k : Int)) = true := by simp; omega
      have d1 := fun w => idx_str s (i := j) (by omega) (z := (j : Int)) rfl w
      have DG := kd (fun c w => rdigit_any c w)
      have CN := kd (fun c w => rcontains_any ⟨#[45, 46, 40, 41]⟩ c w (by decide))
      simp only [telS_has] at CN
      rcases HC with ⟨rfl, rfl, rfl⟩ | ⟨f, acc, hbj, hf, HLE, HTE⟩
      · have e1 := HB0.out; have e2 := HPL.out
        rw [if_pos rfl] at e1 e2
        subst e1 e2
        have hx := (SG.out rfl).1
        rw [hx] at d1
        have DG2 := kd (DG.out 43)
        rw [show isDig 43 = false by rfl] at DG2
        have ej : ((j : Int) == (j : Int)) = true := by simp
        clear DG CN hx ERR END PE SG
        go_wp2_with (first
          | (go_at_call 95; refine (DG2.out _).mono ?_; rintro e w' ⟨rfl, rfl⟩)
          | (with_reducible refine wpList_push1 rfl (.tmp 55) (.tmp 57) rfl _ [] rfl HO.out 43 rfl (by decide) ?_))
        intro v3 w3 L3 E3 l3 M3
        go_wp2_with fail
        go_roundw
        case rel => exact ⟨j + 1, _, rfl, by go_num, kd ⟨L3, by omega, by omega, by rw [l3]; simp, M3, .inr ⟨s.size + 1, [], Nat.le_refl _, by omega, kd (by rw [E3.out]; rfl), TE.out⟩⟩⟩
        case measure => simp [intOf]; omega
      · obtain ⟨g, rfl⟩ : ∃ g, f = g + 1 := ⟨f - 1, by omega⟩
        have S1 := kd (fun h => HTE.out.trans (tel_more (sg := sg) (f := g) (acc := acc) (by rw [ZL.out]; exact hlt) h))
        have S2 := kd (fun h h2 => HTE.out.trans (tel_skip (sg := sg) (f := g) (acc := acc) (by rw [ZL.out]; exact hlt) h h2))
        have S3 := kd (fun h h2 => HTE.out.trans (tel_bad (sg := sg) (f := g) (acc := acc) (by rw [ZL.out]; exact hlt) h h2))
        rw [ZG.out j hlt] at S1 S2 S3
        have JI := kd (show sg = true → j ≠ i from fun e => by
          have e1 := HB0.out
          rw [if_pos e] at e1
          omega)
        have MORE := kd (fun v3 w3 L3 (E3 : L3 = l ++ [(byteL s).getD j 0]) (l3 : L3.length = l.length + 1) (M3 : Hid (OX w v3 L3 w3)) (hc : telC sg ((byteL s).getD j 0) = true) => show TeR w s i k b0 Z PL sg T v3 (j + 1) w3 from ⟨L3, by omega, by omega, by omega, M3, .inr ⟨g, acc ++ [(byteL s).getD j 0], by omega, by omega, kd (by rw [E3, HLE.out, List.append_assoc]), kd (S1.out hc)⟩⟩)
        have SKIP := kd (fun (hc : telC sg ((byteL s).getD j 0) = false) (hc2 : telS ((byteL s).getD j 0) = true) => show TeR w s i k b0 Z PL sg T v (j + 1) wr from ⟨l, by omega, by omega, by omega, HO, .inr ⟨g, acc, by omega, by omega, HLE, kd (S2.out hc hc2)⟩⟩)
        have FAIL := kd (fun (hc : telC sg ((byteL s).getD j 0) = false) (hc2 : telS ((byteL s).getD j 0) = false) => ERR.out j (by rw [PE.out, S3.out hc hc2]; rfl))
        have TC := kd (show telC sg ((byteL s).getD j 0) = (isDig ((byteL s).getD j 0) || (!sg && ((byteL s).getD j 0 == 42 || (byteL s).getD j 0 == 35))) from rfl)
        have DG2 := kd (DG.out ((byteL s).getD j 0))
        have CN2 := kd (CN.out ((byteL s).getD j 0))
        clear S1 S2 S3 ERR END PE DG CN HTE HLE ZG ZL TE SG HB0 HPL hbj hf
        generalize (byteL s).getD j 0 = x at *
        cases hD : isDig x with
        | true =>
          rw [hD] at DG2 TC
          clear SKIP FAIL CN2
          go_wp2_with (first
            | (go_at_call 95; refine (DG2.out _).mono ?_; rintro e w' ⟨rfl, rfl⟩)
            | (with_reducible refine wpList_push1 rfl (.tmp 55) (.tmp 57) rfl _ l rfl HO.out x rfl (by omega) ?_))
          intro v3 w3 L3 E3 l3 M3
          go_wp2_with fail
          go_roundw
          case rel => exact ⟨j + 1, _, rfl, by go_num, kd (MORE.out v3 w3 L3 E3.out l3 M3 (by rw [TC.out]; rfl))⟩
          case measure => simp [intOf]; omega
        | false =>
          rw [hD] at DG2 TC
          cases sg with
          | true =>
            have ej : ((j : Int) == (i : Int)) = false := by have := JI.out rfl; simp; omega
            clear MORE
            cases hS : telS x with
            | true =>
              rw [hS] at CN2
              have SK := kd (SKIP.out (by rw [TC.out]; rfl) hS)
              clear SKIP FAIL hS TC
              go_wp2_with (first | (go_at_call 95; refine (DG2.out _).mono ?_; rintro e w' ⟨rfl, rfl⟩) | (go_at_call 96; refine (CN2.out _).mono ?_; rintro e w' ⟨rfl, rfl⟩))
              go_roundw
              case rel => exact ⟨j + 1, _, rfl, by go_num, SK⟩
              case measure => simp [intOf]; omega
            | false =>
              rw [hS] at CN2
              have FA := kd (FAIL.out (by rw [TC.out]; rfl) hS)
              clear SKIP FAIL hS TC
              go_wp2_with (first
                | (go_at_call 95; refine (DG2.out _).mono ?_; rintro e w' ⟨rfl, rfl⟩)
                | (go_at_call 96; refine (CN2.out _).mono ?_; rintro e w' ⟨rfl, rfl⟩)
                | (go_at_call 140; refine (rfail_any _ b i j s (0, 0) 5 R1.out.r).mono ?_; rintro _ w5 ⟨rfl, h5⟩; have R2 := kd (R1.out.then h5)))
              go_ret
              exact ⟨_, _, _, rfl, R2.out, FA.out⟩
          | false =>
            by_cases h42 : x = 42
            · have e42 : (x == 42) = true := beq_iff_eq.2 h42
              rw [e42] at TC
              clear h42
              clear SKIP FAIL CN2
              go_wp2_with (first
                | (go_at_call 95; refine (DG2.out _).mono ?_; rintro e w' ⟨rfl, rfl⟩)
                | (with_reducible refine wpList_push1 rfl (.tmp 55) (.tmp 57) rfl _ l rfl HO.out x rfl (by omega) ?_))
              intro v3 w3 L3 E3 l3 M3
              go_wp2_with fail
              go_roundw
              case rel => exact ⟨j + 1, _, rfl, by go_num, kd (MORE.out v3 w3 L3 E3.out l3 M3 (by rw [TC.out]; rfl))⟩
              case measure => simp [intOf]; omega
            · have e42 : (x == 42) = false := by simpa using h42
              rw [e42] at TC
              by_cases h35 : x = 35
              · have e35 : (x == 35) = true := beq_iff_eq.2 h35
                rw [e35] at TC
                clear h35
                clear SKIP FAIL CN2
                go_wp2_with (first
                  | (go_at_call 95; refine (DG2.out _).mono ?_; rintro e w' ⟨rfl, rfl⟩)
                  | (with_reducible refine wpList_push1 rfl (.tmp 55) (.tmp 57) rfl _ l rfl HO.out x rfl (by omega) ?_))
                intro v3 w3 L3 E3 l3 M3
                go_wp2_with fail
                go_roundw
                case rel => exact ⟨j + 1, _, rfl, by go_num, kd (MORE.out v3 w3 L3 E3.out l3 M3 (by rw [TC.out]; rfl))⟩
                case measure => simp [intOf]; omega
              · have e35 : (x == 35) = false := by simpa using h35
                rw [e35] at TC
                clear h42 h35
                clear MORE
                cases hS : telS x with
                | true =>
                  rw [hS] at CN2
                  have SK := kd (SKIP.out (by rw [TC.out]; rfl) hS)
                  clear SKIP FAIL hS TC
                  go_wp2_with (first | (go_at_call 95; refine (DG2.out _).mono ?_; rintro e w' ⟨rfl, rfl⟩) | (go_at_call 96; refine (CN2.out _).mono ?_; rintro e w' ⟨rfl, rfl⟩))
                  go_roundw
                  case rel => exact ⟨j + 1, _, rfl, by go_num, SK⟩
                  case measure => simp [intOf]; omega
                | false =>
                  rw [hS] at CN2
                  have FA := kd (FAIL.out (by rw [TC.out]; rfl) hS)
                  clear SKIP FAIL hS TC
                  go_wp2_with (first
                    | (go_at_call 95; refine (DG2.out _).mono ?_; rintro e w' ⟨rfl, rfl⟩)
                    | (go_at_call 96; refine (CN2.out _).mono ?_; rintro e w' ⟨rfl, rfl⟩)
                    | (go_at_call 140; refine (rfail_any _ b i j s (0, 0) 5 R1.out.r).mono ?_; rintro _ w5 ⟨rfl, h5⟩; have R2 := kd (R1.out.then h5)))
                  go_ret
                  exact ⟨_, _, _, rfl, R2.out, FA.out⟩
    · obtain rfl : j = k := by omega
      have hd : decide ((j : Int) < (j : Int)) = false := by simp
      rcases HC with ⟨rfl, rfl, rfl⟩ | ⟨f, acc, hbj, hf, HLE, HTE⟩
      · have := (SG.out rfl).2; omega
      · obtain ⟨g, rfl⟩ : ∃ g, f = g + 1 := ⟨f - 1, by omega⟩
        have TO := kd (show T = .ok acc by rw [HTE.out, tel_end (by rw [ZL.out]; exact Nat.le_refl _)])
        have PH := kd (END.out acc (by rw [PE.out, TO.out]; rfl))
        obtain rfl := HLE.out
        obtain ⟨A, cp, hv⟩ := HO.out.form
        subst hv
        have LE := kd (show (PL ++ acc).length = acc.length + (if sg = true then 1 else 0) by
          rw [← HPL.out, List.length_append]
          cases sg <;> simp <;> omega)
        have NL := kd (show (PL ++ acc).length ≤ 16000000 by omega)
        have OS := kd HO.out.o
        have XT := kd (show strOfNums (PL ++ acc) = strOfNums (PL ++ acc) from rfl)
        generalize hN : (PL ++ acc).length = N at LE NL OS ⊢
        clear TO HTE PE ERR END TE ZG ZL SG HB0 HPL hbj hf hl k0
        have aN : acc.length ≤ 16000000 := by have h1 := LE.out; have h2 := NL.out; omega
        go_upto_if 67 with (fail)
        go_cut [9] (fun v wx => v = .int .i64 (acc.length : Nat) ∧ Hid (wr = wx))
        case first =>
          cases sg with
          | true =>
            have en : (N : Int) = (acc.length : Nat) + 1 := by have := LE.out; simp at this; omega
            rw [en]
            go_wp2_with fail
            go_meet
            exact ⟨by go_num, kd rfl⟩
          | false =>
            have en : N = acc.length := by have := LE.out; simpa using this
            subst en
            go_wp2_with fail
            go_meet
            exact ⟨rfl, kd rfl⟩
        case rest =>
        obtain ⟨rfl, hwx⟩ := hcut
        obtain rfl := hwx.out
        clear hwx
        by_cases h0 : acc.length < 1
        · rw [if_pos h0] at PH
          have d1 : decide ((acc.length : Int) < 1) = true := by simp; omega
          have d2 : decide ((30 : Int) < (acc.length : Int)) = false := by simp; omega
          go_upto_region 21 with (go_at_call 140; refine (rfail_any _ b i i s (0, 0) 5 R1.out.r).mono ?_; rintro _ w5 ⟨rfl, h5⟩)
          rw [failQ_ok (q := (0, 0)) rfl] at h5
          have R2 := kd (R1.out.then h5)
          have OT := kd (own_rdx OS.out h5.g (show b < w.heap.size from Row.lt HR.out))
          clear h5 R1 OS
          have f1 := R2.out.r.frozen 1
          have k1 := R2.out.r.cell 1
          simp only [rdC, List.getElem?_cons_succ, List.getElem?_cons_zero] at k1
          have R5 := kd (R2.out.at j)
          have OO := kd (own_elder (o := 1) (u := .int .i64 (j : Nat)) OT.out (show b < w.heap.size from Row.lt HR.out))
          go_upto_region 22 with (fail)
          clear f1 k1
          generalize World.setCell _ ⟨b, 1, none⟩ (.int .i64 (j : Nat)) = w9 at *
          have cv := conv_owned OO.out
          go_wp2_with fail
          go_ret
          first | exact ⟨_, _, _, rfl, R5.out, PH.out⟩ | exact ⟨_, rfl, _, _, _, R5.out, PH.out⟩
        · rw [if_neg h0] at PH
          have d1 : decide ((acc.length : Int) < 1) = false := by simp; omega
          by_cases h1 : 30 < acc.length
          · rw [if_pos h1] at PH
            have d2 : decide ((30 : Int) < (acc.length : Int)) = true := by simp; omega
            go_upto_region 21 with (go_at_call 140; refine (rfail_any _ b i i s (0, 0) 4 R1.out.r).mono ?_; rintro _ w5 ⟨rfl, h5⟩)
            rw [failQ_ok (q := (0, 0)) rfl] at h5
            have R2 := kd (R1.out.then h5)
            have OT := kd (own_rdx OS.out h5.g (show b < w.heap.size from Row.lt HR.out))
            clear h5 R1 OS
            have f1 := R2.out.r.frozen 1
            have k1 := R2.out.r.cell 1
            simp only [rdC, List.getElem?_cons_succ, List.getElem?_cons_zero] at k1
            have R5 := kd (R2.out.at j)
            have OO := kd (own_elder (o := 1) (u := .int .i64 (j : Nat)) OT.out (show b < w.heap.size from Row.lt HR.out))
            go_upto_region 22 with (fail)
            clear f1 k1
            generalize World.setCell _ ⟨b, 1, none⟩ (.int .i64 (j : Nat)) = w9 at *
            have cv := conv_owned OO.out
            go_wp2_with fail
            go_ret
            first | exact ⟨_, _, _, rfl, R5.out, PH.out⟩ | exact ⟨_, rfl, _, _, _, R5.out, PH.out⟩
          · rw [if_neg h1] at PH
            have d2 : decide ((30 : Int) < (acc.length : Int)) = false := by simp; omega
            have OT := kd OS.out
            have f1 := R1.out.r.frozen 1
            have k1 := R1.out.r.cell 1
            simp only [rdC, List.getElem?_cons_succ, List.getElem?_cons_zero] at k1
            have R5 := kd (R1.out.at j)
            have OO := kd (own_elder (o := 1) (u := .int .i64 (j : Nat)) OT.out (show b < w.heap.size from Row.lt HR.out))
            go_upto_region 22 with (fail)
            clear f1 k1
            generalize World.setCell _ ⟨b, 1, none⟩ (.int .i64 (j : Nat)) = w9 at *
            have cv := conv_owned OO.out
            go_wp2_with fail
            go_ret
            first | exact ⟨_, _, _, rfl, R5.out, PH.out⟩ | exact ⟨_, rfl, _, _, _, R5.out, PH.out⟩
end Go.Proofs.YthfonniieaiocaaGreatDoor
