/- Contract: address's fields. -/
import Derived.Test.YthfonniieaiocaaGreatDoorUm
set_option linter.unusedVariables false
set_option linter.unusedSimpArgs false
namespace Go.Proofs.YthfonniieaiocaaGreatDoor
open Go.RowKit

theorem wpList_pushF {w wr : World} {l : List Pm} {v : Value} {ops : Array Oper} {rest : List Oper} {o : Oper} {a : Act} {Q : Exit → Act → World → Prop} (hgd : o.guard = none) (x y : Operand)
    (ho : o.op = .call { callee := .builtin .append, args := #[x, y], argTypes := #[30, 30] }) (hs : a.eval x = v) (H : VX 56 3 w v l.length (pms l) wr) (p : Pm) (hy : a.eval y = .slice (some ⟨wr.heap.size, 0, none⟩) 1 1) (hb : l.length + 1 ≤ 16777216)
    (h : ∀ v' w', Hid (VX 56 3 w v' (l ++ [p]).length (pms (l ++ [p])) w') → wpList Tryz.prog ops Q rest (a.put o.dst v') w') : wpList Tryz.prog ops Q (o :: rest) a (wr.alloc (.cells #[.string (strOfNums p.n), .string (strOfNums p.v), .bool p.h] 56)) := by
  obtain ⟨i, hi, hz, hsz, hbt⟩ := infoPm
  have hbase : w.heap.size ≤ (wr.alloc (.cells #[.string (strOfNums p.n), .string (strOfNums p.v), .bool p.h] 56)).heap.size := by have := H.bw.size; simp; omega
  refine wpList_append_own_at _ hgd x y 30 ho w.heap.size 56 i _ 3 40 Tryz.underlying30 hi hz hsz hbt rfl (by omega) v l.length (pms l) hs (H.o.alloc _) ⟨wr.heap.size, 0, none⟩ 1 1 [.string (strOfNums p.n), .string (strOfNums p.v), .bool p.h] hy rfl (fun j u hu => ?_) (pm_one _ _ _) (by unfold maxLen; omega) ?_ hbase ?_
  · rw [Addr.add_mid, Nat.zero_add]
    exact ((Row.new wr 56 [.string (strOfNums p.n), .string (strOfNums p.v), .bool p.h]).cell j).trans hu
  · omega
  · intro v' w' h2 h3 _ h5
    refine h v' w' (kd ?_)
    rw [pms_snoc, List.length_append]
    exact ⟨h2, (H.bw.alloc H.bw.size _).grown h3 hbase (own_block H.o)⟩
def FldsP (w : World) (R : Option (List Pm)) (e : Ending) (w' : World) : Prop := match R with
  | none => e = .returned (.tuple #[.slice none 0 0, .bool false]) ∧ Below w.heap.size w w'
  | some m => ∃ v, e = .returned (.tuple #[v, .bool true]) ∧ VX 56 3 w v m.length (pms m) w'
theorem FldsP.bad {w w' : World} {R : Option (List Pm)} (h : R = none) (hb : Below w.heap.size w w') : FldsP w R (.returned (.tuple #[.slice none 0 0, .bool false])) w' := by subst h; exact ⟨rfl, hb⟩
theorem FldsP.good {w w' : World} {R : Option (List Pm)} {m : List Pm} {v : Value} (h : R = some m) (hv : VX 56 3 w v m.length (pms m) w') : FldsP w R (.returned (.tuple #[v, .bool true])) w' := by subst h; exact ⟨v, rfl, hv⟩
theorem fldsN_cons (k : Int) (p : Pm) (r n : List Pm) : fldsN k (p :: r) n = if lowS p.n = [] ∨ clean (lowS p.n) = false ∨ clean p.v = false ∨ holdsL n (lowS p.n) = true then none
    else if (k = 2 ∧ p.h = false) ∨ (k = 1 ∧ p.h ≠ !p.v.isEmpty) then none
    else fldsN k r (n ++ [⟨lowS p.n, p.v, p.h⟩]) := rfl
theorem dropPm {l : List Pm} {k : Nat} {p : Pm} (h : l[k]? = some p) : l.drop k = p :: l.drop (k + 1) := by
  obtain ⟨h1, h2⟩ := List.getElem?_eq_some_iff.1 h
  rw [List.drop_eq_getElem_cons h1, h2]
theorem VX.own_ne {T : TypeId} {sz : Nat} {w wr : World} {v : Value} {n : Nat} {cs : List Value} (H : VX T sz w v n cs wr) : ∀ g, v.ownBlock = some g → g ≠ wr.heap.size := fun g hg e => by have := H.own_lt hg; omega
def pmSz (p : Pm) : Prop := By p.n ∧ By p.v ∧ p.n.length ≤ 4000000 ∧ p.v.length ≤ 4000000
set_option maxRecDepth 100000 in
set_option maxHeartbeats 8000000 in
theorem fields_any (A : Option Addr) (n c : Nat) (l : List Pm) (k : Int) (w : World) (hA : Rds w w.heap.size A (pms l)) (hn : l.length = n) (hN : n ≤ 16000000) (hl : ∀ p ∈ l, pmSz p) (hk : k = 1 ∨ k = 2) :
    Calls Tryz.prog 99 #[.slice A n c, .int .i64 k] w (FldsP w (fldsL l k)) := by
  have HA := kd hA; have HN := kd hn; have HL := kd hl
  have PB := kd (show PmBy l from fun p hp => ⟨(hl p hp).1, (hl p hp).2.1⟩)
  have RE := kd (show fldsL l k = if 16 < n then none else (fldsN k l []).map sortPm by subst hn; rfl)
  obtain ⟨R0, hR0⟩ : ∃ R0, fldsN k l [] = R0 := ⟨_, rfl⟩
  rw [hR0] at RE
  have R0E := kd hR0
  have BAD := kd (fun w' h hb => FldsP.bad (w := w) (w' := w') (R := fldsL l k) h hb)
  have GOOD := kd (fun w' m v h hb => FldsP.good (w := w) (w' := w') (R := fldsL l k) (m := m) (v := v) h hb)
  generalize FldsP w (fldsL l k) = PP at *
  generalize fldsL l k = R at *
  clear hA hn hl hR0
  go_enter Tryz.func99, Tryz.ntmps99
  by_cases h16 : 16 < n
  · have d0 : decide ((16 : Int) < (n : Int)) = true := by simp; omega
    have E := kd (RE.out.trans (if_pos h16))
    clear RE
    go_wp2_with fail
    first | exact BAD.out _ E.out (Below.refl _ _) | (go_ret2; exact BAD.out _ E.out (Below.refl _ _))
  have d0 : decide ((16 : Int) < (n : Int)) = false := by simp; omega
  have RE2 := kd (RE.out.trans (if_neg h16))
  have n16 : n ≤ 16 := by omega
  clear RE h16 hN
  go_wp2_with fail
  go_loopw [6, 14] (fun v6 v14 wr => ∃ (j : Nat) (m : List Pm) (v : Value), j ≤ n ∧ m.length ≤ j ∧ v6 = v ∧ v14 = .int .i64 j ∧ Hid (R0 = fldsN k (l.drop j) m) ∧ Hid (VX 56 3 w v m.length (pms m) wr) ∧ Hid (∀ p ∈ m, By p.n ∧ By p.v)) (fun _ v _ => n - (intOf v).toNat)
  case atStart => exact ⟨0, [], _, Nat.zero_le _, Nat.le_refl _, rfl, rfl, kd (by rw [List.drop_zero]; exact R0E.out.symm), kd (VX.nil _ _ _), kd (fun p hp => by cases hp)⟩
  case round =>
    clear d0
    obtain ⟨j, m, v, hj, hmj, rfl, rfl, RN, HV, MB⟩ := hrel
    by_cases hlt : j < n
    · have hd : decide (j < n) = true := by simp [hlt]
      have hd2 : decide ((j : Int) < (n : Int)) = true := by simp; omega
      obtain ⟨p, hp⟩ : ∃ p, l[j]? = some p := ⟨_, List.getElem?_eq_getElem (by rw [HN.out]; exact hlt)⟩
      obtain ⟨x1, o1, rfl, hx1, hc1⟩ := HA.out (by rw [pms_len, HN.out]; omega)
      have G1 := kd (show wr.rangeAt x1 (o1 + j * 3) (pmC p) from fun i v hv => (HV.out.bw.cell (p := ⟨x1, _, none⟩) hx1).trans (Rds.range2 hc1 (j * 3) _ (pms_at hp) i v hv))
      obtain ⟨pnb, pvb, pnl, pvl⟩ := HL.out p (List.mem_of_getElem? hp)
      have RN2 := kd (show R0 = _ by rw [RN.out, dropPm hp, fldsN_cons])
      clear hc1 hp RN hd
      obtain ⟨pn, pv, ph⟩ := p
      dsimp only at pnb pvb pnl pvl RN2
      have G2 := kd (show wr.rangeAt x1 (o1 + j * 3) [.string (strOfNums pn), .string (strOfNums pv), .bool ph] from G1.out)
      have LW := kd (fun w => adlower_any (strOfNums pn) w (by rw [num_size]; exact pnl))
      rw [byteL_str pnb] at LW
      have NB := lowS_by pnb
      have NL : (lowS pn).length ≤ 4000000 := by rw [lowS_len]; exact pnl
      obtain ⟨nm, hnm⟩ : ∃ nm, lowS pn = nm := ⟨_, rfl⟩
      rw [hnm] at LW RN2 NB NL
      have CN := kd (fun w => adclean_any (strOfNums nm) w (by rw [num_size]; exact NL))
      rw [byteL_str NB] at CN
      have CV := kd (fun w => adclean_any (strOfNums pv) w (by rw [num_size]; exact pvl))
      rw [byteL_str pvb] at CV
      have EN := empty_beq nm
      have EV := empty_beq pv
      have EV2 : ((strOfNums pv).toList != ([] : List UInt8)) = !pv.isEmpty := by rw [bne, EV]
      have HNB := kd NB
      have HVB := kd pvb
      have RP := kd (Row.new wr 56 [.string (strOfNums pn), .string (strOfNums pv), .bool ph])
      have V1 := kd (HV.out.step ((Below.refl _ _).alloc (Nat.le_refl _) (.cells #[.string (strOfNums pn), .string (strOfNums pv), .bool ph] 56)))
      have NE := kd (VX.own_ne HV.out)
      have GE := kd (show w.heap.size ≤ wr.heap.size from HV.out.bw.size)
      clear G1 pnb pvb pnl pvl NB NL hnm HV
      go_upto_region 7 with (with_reducible refine wpList_load_mid rfl 56 (.tmp 16) rfl x1 (o1 + j * 3) rfl [.string (strOfNums pn), .string (strOfNums pv), .bool ph] _ G2.out Tryz.underlying56 rfl (sizePm _ _ _) ?_)
      generalize wr.alloc (.cells #[.string (strOfNums pn), .string (strOfNums pv), .bool ph] 56) = w2 at *
      generalize wr.heap.size = pb at *
      have k0 : w2.cell? ⟨pb, 0, none⟩ = some (.string (strOfNums pn)) := RP.out.cell 0
      go_wp2_with fail
      refine (LW.out w2).mono ?_
      rintro e w3 ⟨rfl, hb⟩
      have RP3 := kd (RP.out.below hb)
      have V3 := kd (V1.out.step hb)
      clear k0 hb RP V1 LW G2
      have f0 : w3.frozen? ⟨pb, 0, none⟩ = false := RP3.out.frozen 0
      have k0 : w3.cell? ⟨pb, 0, none⟩ = some (.string (strOfNums pn)) := RP3.out.cell 0
      have RP4 := kd (show Row (w3.setCell ⟨pb, 0, none⟩ (.string (strOfNums nm))) pb 56 [.string (strOfNums nm), .string (strOfNums pv), .bool ph] from RP3.out.set 0 _)
      have V4 := kd (V3.out.other (V3.out.bw.setCell GE.out (.string (strOfNums nm))) (fun g hg => Below.heap_setCell w3 ⟨pb, 0, none⟩ (.string (strOfNums nm)) g (NE.out g hg)))
      go_upto_region 8 with (fail)
      clear k0 f0 RP3 V3
      generalize w3.setCell ⟨pb, 0, none⟩ (.string (strOfNums nm)) = w4 at *
      have k0 : w4.cell? ⟨pb, 0, none⟩ = some (.string (strOfNums nm)) := RP4.out.cell 0
      have k1 : w4.cell? ⟨pb, 1, none⟩ = some (.string (strOfNums pv)) := RP4.out.cell 1
      have HO := kd (fun (A : Option Addr) (c : Nat) (hR : Rds w4 w4.heap.size A (pms m)) => holds_any A m.length c m nm w4 hR rfl (by omega) (fun p hp => (MB.out p hp).1) HNB.out)
      obtain ⟨K2, A2, c2, hv2, hnil2, hK2, hRd2⟩ := V4.out.whole
      subst hv2
      have HO2 := kd (HO.out A2 c2 (hRd2 w4 fun r hr => (hK2 r hr).1))
      clear hnil2 hK2 hRd2 HO
      by_cases b1 : nm = []
      · have E := kd (show R = none by rw [RE2.out, RN2.out, if_pos (.inl b1)]; rfl)
        have q1 : ((strOfNums nm).toList == ([] : List UInt8)) = true := by rw [EN, b1]; rfl
        clear EN RN2 RE2 EV EV2 b1
        go_wp2_with fail
        first | exact BAD.out _ E.out V4.out.bw | (go_ret2; exact BAD.out _ E.out V4.out.bw)
      have q1 : ((strOfNums nm).toList == ([] : List UInt8)) = false := by rw [EN]; simpa using b1
      clear EN
      cases b2 : clean nm with
      | false =>
        rw [b2] at CN
        have E := kd (show R = none by rw [RE2.out, RN2.out, if_pos (.inr (.inl b2))]; rfl)
        clear RN2 RE2 EV EV2 b1
        go_wp2_with fail
        refine (CN.out _).mono ?_
        rintro _ _ ⟨rfl, rfl⟩
        go_wp2_with fail
        first | exact BAD.out _ E.out V4.out.bw | (go_ret2; exact BAD.out _ E.out V4.out.bw)
      | true =>
      rw [b2] at CN
      go_wp2_with fail
      refine (CN.out _).mono ?_
      rintro _ _ ⟨rfl, rfl⟩
      clear CN
      cases b3 : clean pv with
      | false =>
        rw [b3] at CV
        have E := kd (show R = none by rw [RE2.out, RN2.out, if_pos (.inr (.inr (.inl b3)))]; rfl)
        clear RN2 RE2 EV EV2 b1
        go_wp2_with fail
        refine (CV.out _).mono ?_
        rintro _ _ ⟨rfl, rfl⟩
        go_wp2_with fail
        first | exact BAD.out _ E.out V4.out.bw | (go_ret2; exact BAD.out _ E.out V4.out.bw)
      | true =>
      rw [b3] at CV
      go_wp2_with fail
      refine (CV.out _).mono ?_
      rintro _ _ ⟨rfl, rfl⟩
      clear CV
      go_wp2_with fail
      refine HO2.out.mono ?_
      rintro _ w5 ⟨rfl, hb5⟩
      have RP5 := kd (RP4.out.below hb5)
      have V5 := kd (V4.out.step hb5)
      clear k0 k1 hb5 RP4 V4 HO2
      cases b4 : holdsL m nm with
      | true =>
        have E := kd (show R = none by rw [RE2.out, RN2.out, if_pos (.inr (.inr (.inr b4)))]; rfl)
        clear RN2 RE2 EV EV2 b1
        go_wp2_with fail
        first | exact BAD.out _ E.out V5.out.bw | (go_ret2; exact BAD.out _ E.out V5.out.bw)
      | false =>
      have RN3 := kd (RN2.out.trans (if_neg (fun h => by
        rcases h with h | h | h | h
        · exact b1 h
        · rw [b2] at h; cases h
        · rw [b3] at h; cases h
        · rw [b4] at h; cases h)))
      clear RN2 b1 b2 b3 b4 q1
      have k1 : w5.cell? ⟨pb, 1, none⟩ = some (.string (strOfNums pv)) := RP5.out.cell 1
      have k2 : w5.cell? ⟨pb, 2, none⟩ = some (.bool ph) := RP5.out.cell 2
      rcases hk with rfl | rfl
      · cases ph
        case false =>
          cases hv : pv.isEmpty with
          | true =>
            have hv0 := hv
            rw [hv] at EV EV2
            have E := kd (RN3.out.trans (if_neg (by first | (rw [hv]; decide) | (rw [hv0]; decide))))
            clear RN3 hv0
            go_wp2_with (first
              | (with_reducible refine wpList_loadR rfl 56 (.tmp 8) rfl RP5.out rfl Tryz.underlying56 rfl (sizePm _ _ _) ?_)
              | (with_reducible refine wpList_pushF rfl (.tmp 62) (.tmp 64) rfl rfl V5.out ⟨nm, pv, false⟩ rfl (by omega) ?_))
            intro v9 w9 V9
            go_wp2_with fail
            go_roundw
            case rel => exact ⟨j + 1, m ++ [(⟨nm, pv, false⟩ : Pm)], _, by omega, by rw [List.length_append, List.length_singleton]; omega, rfl, by go_num, E, kd (show VX 56 3 w v9 (m ++ [(⟨nm, pv, false⟩ : Pm)]).length _ w9 by rw [List.length_append]; exact V9.out), kd (fun p hp => by
              rcases List.mem_append.1 hp with hp | hp
              · exact MB.out p hp
              · rw [List.mem_singleton] at hp; subst hp; exact ⟨HNB.out, HVB.out⟩)⟩
            case measure => simp [intOf]; omega
          | false =>
            have hv0 := hv
            rw [hv] at EV EV2
            have E := kd (show R = none by rw [RE2.out, RN3.out, if_pos (by first | exact .inl ⟨rfl, rfl⟩ | exact .inr ⟨rfl, by first | (rw [hv]; decide) | (rw [hv0]; decide)⟩)]; rfl)
            clear RN3 RE2 hv0
            go_wp2_with fail
            first | exact BAD.out _ E.out V5.out.bw | (go_ret2; exact BAD.out _ E.out V5.out.bw)
        case true =>
          cases hv : pv.isEmpty with
          | true =>
            have hv0 := hv
            rw [hv] at EV EV2
            have E := kd (show R = none by rw [RE2.out, RN3.out, if_pos (by first | exact .inl ⟨rfl, rfl⟩ | exact .inr ⟨rfl, by first | (rw [hv]; decide) | (rw [hv0]; decide)⟩)]; rfl)
            clear RN3 RE2 hv0
            go_wp2_with fail
            first | exact BAD.out _ E.out V5.out.bw | (go_ret2; exact BAD.out _ E.out V5.out.bw)
          | false =>
            have hv0 := hv
            rw [hv] at EV EV2
            have E := kd (RN3.out.trans (if_neg (by first | (rw [hv]; decide) | (rw [hv0]; decide))))
            clear RN3 hv0
            go_wp2_with (first
              | (with_reducible refine wpList_loadR rfl 56 (.tmp 8) rfl RP5.out rfl Tryz.underlying56 rfl (sizePm _ _ _) ?_)
              | (with_reducible refine wpList_pushF rfl (.tmp 62) (.tmp 64) rfl rfl V5.out ⟨nm, pv, true⟩ rfl (by omega) ?_))
            intro v9 w9 V9
            go_wp2_with fail
            go_roundw
            case rel => exact ⟨j + 1, m ++ [(⟨nm, pv, true⟩ : Pm)], _, by omega, by rw [List.length_append, List.length_singleton]; omega, rfl, by go_num, E, kd (show VX 56 3 w v9 (m ++ [(⟨nm, pv, true⟩ : Pm)]).length _ w9 by rw [List.length_append]; exact V9.out), kd (fun p hp => by
              rcases List.mem_append.1 hp with hp | hp
              · exact MB.out p hp
              · rw [List.mem_singleton] at hp; subst hp; exact ⟨HNB.out, HVB.out⟩)⟩
            case measure => simp [intOf]; omega
      · cases ph
        case false =>
          cases hv : pv.isEmpty with
          | true =>
            have hv0 := hv
            rw [hv] at EV EV2
            have E := kd (show R = none by rw [RE2.out, RN3.out, if_pos (by first | exact .inl ⟨rfl, rfl⟩ | exact .inr ⟨rfl, by first | (rw [hv]; decide) | (rw [hv0]; decide)⟩)]; rfl)
            clear RN3 RE2 hv0
            go_wp2_with fail
            first | exact BAD.out _ E.out V5.out.bw | (go_ret2; exact BAD.out _ E.out V5.out.bw)
          | false =>
            have hv0 := hv
            rw [hv] at EV EV2
            have E := kd (show R = none by rw [RE2.out, RN3.out, if_pos (by first | exact .inl ⟨rfl, rfl⟩ | exact .inr ⟨rfl, by first | (rw [hv]; decide) | (rw [hv0]; decide)⟩)]; rfl)
            clear RN3 RE2 hv0
            go_wp2_with fail
            first | exact BAD.out _ E.out V5.out.bw | (go_ret2; exact BAD.out _ E.out V5.out.bw)
        case true =>
          cases hv : pv.isEmpty with
          | true =>
            have hv0 := hv
            rw [hv] at EV EV2
            have E := kd (RN3.out.trans (if_neg (by first | (rw [hv]; decide) | (rw [hv0]; decide))))
            clear RN3 hv0
            go_wp2_with (first
              | (with_reducible refine wpList_loadR rfl 56 (.tmp 8) rfl RP5.out rfl Tryz.underlying56 rfl (sizePm _ _ _) ?_)
              | (with_reducible refine wpList_pushF rfl (.tmp 62) (.tmp 64) rfl rfl V5.out ⟨nm, pv, true⟩ rfl (by omega) ?_))
            intro v9 w9 V9
            go_wp2_with fail
            go_roundw
            case rel => exact ⟨j + 1, m ++ [(⟨nm, pv, true⟩ : Pm)], _, by omega, by rw [List.length_append, List.length_singleton]; omega, rfl, by go_num, E, kd (show VX 56 3 w v9 (m ++ [(⟨nm, pv, true⟩ : Pm)]).length _ w9 by rw [List.length_append]; exact V9.out), kd (fun p hp => by
              rcases List.mem_append.1 hp with hp | hp
              · exact MB.out p hp
              · rw [List.mem_singleton] at hp; subst hp; exact ⟨HNB.out, HVB.out⟩)⟩
            case measure => simp [intOf]; omega
          | false =>
            have hv0 := hv
            rw [hv] at EV EV2
            have E := kd (RN3.out.trans (if_neg (by first | (rw [hv]; decide) | (rw [hv0]; decide))))
            clear RN3 hv0
            go_wp2_with (first
              | (with_reducible refine wpList_loadR rfl 56 (.tmp 8) rfl RP5.out rfl Tryz.underlying56 rfl (sizePm _ _ _) ?_)
              | (with_reducible refine wpList_pushF rfl (.tmp 62) (.tmp 64) rfl rfl V5.out ⟨nm, pv, true⟩ rfl (by omega) ?_))
            intro v9 w9 V9
            go_wp2_with fail
            go_roundw
            case rel => exact ⟨j + 1, m ++ [(⟨nm, pv, true⟩ : Pm)], _, by omega, by rw [List.length_append, List.length_singleton]; omega, rfl, by go_num, E, kd (show VX 56 3 w v9 (m ++ [(⟨nm, pv, true⟩ : Pm)]).length _ w9 by rw [List.length_append]; exact V9.out), kd (fun p hp => by
              rcases List.mem_append.1 hp with hp | hp
              · exact MB.out p hp
              · rw [List.mem_singleton] at hp; subst hp; exact ⟨HNB.out, HVB.out⟩)⟩
            case measure => simp [intOf]; omega
    · obtain rfl : j = n := by omega
      have hd2 : decide ((j : Int) < (j : Int)) = false := by simp
      have E := kd (show R0 = some m by rw [RN.out, List.drop_of_length_le (by rw [HN.out]; exact Nat.le_refl _)]; rfl)
      obtain ⟨e1, _, _, e2⟩ := fldsN_some PB.out (R0E.out.trans E.out)
      rw [List.nil_append] at e1
      rw [← e1] at e2
      have ER := kd (show R = some (sortPm m) by rw [RE2.out, E.out]; rfl)
      have ND := kd e2
      obtain ⟨K2, A2, c2, hv2, hnil2, hK2, hRd2⟩ := HV.out.whole
      subst hv2
      have SO := kd (sorted_any A2 m.length c2 m wr rfl (hRd2 wr fun r hr => (hK2 r hr).1) hnil2 (by omega) MB.out)
      clear E e1 e2 RN RE2 hnil2 hK2 hRd2
      go_wp2_with fail
      refine SO.out.mono ?_
      rintro _ w3 ⟨v3, m3, rfl, hS⟩
      have EM := kd (asc_sort hS.p hS.a ND.out)
      have VS := kd (hS.x.base HV.out.bw)
      rw [EM.out] at VS
      clear hS SO
      go_wp2_with fail
      first | exact GOOD.out _ _ _ ER.out VS.out | (go_ret2; exact GOOD.out _ _ _ ER.out VS.out)
end Go.Proofs.YthfonniieaiocaaGreatDoor
