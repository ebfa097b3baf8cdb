/- Contract: address's fields. And what stands behind it. -/
import Derived.Test.YthfonniieaiocaaGreatDoorUm
import Derived.Test.YthfonniieaiocaaGreatDoorUn
import Derived.Deep.CutBlock
import Derived.Deep.DeepCutAuto
import Derived.Test.YthfonniieaiocaaGreatDoorBr
set_option linter.unusedVariables false
set_option linter.unusedSimpArgs false
set_option maxRecDepth 100000
set_option maxHeartbeats 8000000
namespace Go.Proofs.YthfonniieaiocaaGreatDoor
open Go.RowKit

theorem wpList_pushF {w wr : World} {l : List Pm} {v : Value} {ops : Array Oper} {rest : List Oper} {o : Oper} {a : Act} {Q : Exit → Act → World → Prop} (hgd : o.guard = none) (x y : Operand)
    (ho : o.op = .call { callee := .builtin .append, args := #[x, y], argTypes := #[30, 30] }) (hs : a.eval x = v) (H : VX 56 3 w v l.length (pms l) wr) (p : Pm) (hy : a.eval y = .slice (some ⟨wr.heap.size, 0, none⟩) 1 1) (hb : l.length + 1 ≤ 16777216)
    (h : ∀ v' w', Hid (VX 56 3 w v' (l ++ [p]).length (pms (l ++ [p])) w') → wpList Tryz.prog ops Q rest (a.put o.dst v') w') : wpList Tryz.prog ops Q (o :: rest) a (wr.alloc (.cells #[.string (strOfNums p.n), .string (strOfNums p.v), .bool p.h] 56)) := by
  obtain ⟨i, hi, hz, hsz, hbt⟩ := infoPm
  have hbase : w.heap.size ≤ (wr.alloc (.cells #[.string (strOfNums p.n), .string (strOfNums p.v), .bool p.h] 56)).heap.size := by have := H.bw.size; simp; omega
  refine wpList_append_own_at _ hgd x y 30 ho w.heap.size 56 i _ 3 40 Tryz.underlying30 hi hz hsz hbt rfl (by omega) v l.length (pms l) hs (H.o.alloc _) ⟨wr.heap.size, 0, none⟩ 1 1 [.string (strOfNums p.n), .string (strOfNums p.v), .bool p.h] hy rfl (fun j u hu => ?_) (pm_one _ _ _) (by unfold maxLen; omega) ?_ hbase ?_
  · rw [Addr.add_mid, Nat.zero_add]
    exact ((Row.new wr 56 [.string (strOfNums p.n), .string (strOfNums p.v), .bool p.h]).cell j).trans hu
  · omega
  · intro v' w' h2 h3 _ h5
    refine h v' w' (kd ?_)
    rw [pms_snoc, List.length_append]
    exact ⟨h2, (H.bw.alloc H.bw.size _).grown h3 hbase (own_block H.o)⟩
def FldsP (w : World) (R : Option (List Pm)) (e : Ending) (w' : World) : Prop := match R with
  | none => e = .returned (.tuple #[.slice none 0 0, .bool false]) ∧ Below w.heap.size w w'
  | some m => ∃ v, e = .returned (.tuple #[v, .bool true]) ∧ VX 56 3 w v m.length (pms m) w'
theorem FldsP.bad {w w' : World} {R : Option (List Pm)} (h : R = none) (hb : Below w.heap.size w w') : FldsP w R (.returned (.tuple #[.slice none 0 0, .bool false])) w' := by subst h; exact ⟨rfl, hb⟩
theorem FldsP.good {w w' : World} {R : Option (List Pm)} {m : List Pm} {v : Value} (h : R = some m) (hv : VX 56 3 w v m.length (pms m) w') : FldsP w R (.returned (.tuple #[v, .bool true])) w' := by subst h; exact ⟨v, rfl, hv⟩
theorem fldsN_cons (k : Int) (p : Pm) (r n : List Pm) : fldsN k (p :: r) n = if lowS p.n = [] ∨ clean (lowS p.n) = false ∨ clean p.v = false ∨ holdsL n (lowS p.n) = true then none
    else if (k = 2 ∧ p.h = false) ∨ (k = 1 ∧ p.h ≠ !p.v.isEmpty) then none
    else fldsN k r (n ++ [⟨lowS p.n, p.v, p.h⟩]) := rfl
theorem dropPm {l : List Pm} {k : Nat} {p : Pm} (h : l[k]? = some p) : l.drop k = p :: l.drop (k + 1) := by
  obtain ⟨h1, h2⟩ := List.getElem?_eq_some_iff.1 h
  rw [List.drop_eq_getElem_cons h1, h2]
theorem VX.own_ne {T : TypeId} {sz : Nat} {w wr : World} {v : Value} {n : Nat} {cs : List Value} (H : VX T sz w v n cs wr) : ∀ g, v.ownBlock = some g → g ≠ wr.heap.size := fun g hg e => by have := H.own_lt hg; omega
def pmSz (p : Pm) : Prop := By p.n ∧ By p.v ∧ p.n.length ≤ 4000000 ∧ p.v.length ≤ 4000000
theorem fields_any (A : Option Addr) (n c : Nat) (l : List Pm) (k : Int) (w : World) (hA : Rds w w.heap.size A (pms l)) (hn : l.length = n) (hN : n ≤ 16000000) (hl : ∀ p ∈ l, pmSz p) (hk : k = 1 ∨ k = 2) :
    Calls Tryz.prog 99 #[.slice A n c, .int .i64 k] w (FldsP w (fldsL l k)) := by
  have HA := kd hA; have HN := kd hn; have HL := kd hl
  have PB := kd (show PmBy l from fun p hp => ⟨(hl p hp).1, (hl p hp).2.1⟩)
  have RE := kd (show fldsL l k = if 16 < n then none else (fldsN k l []).map sortPm by subst hn; rfl)
  obtain ⟨R0, hR0⟩ : ∃ R0, fldsN k l [] = R0 := ⟨_, rfl⟩
  rw [hR0] at RE
  have R0E := kd hR0
  have BAD := kd (fun w' h hb => FldsP.bad (w := w) (w' := w') (R := fldsL l k) h hb)
  have GOOD := kd (fun w' m v h hb => FldsP.good (w := w) (w' := w') (R := fldsL l k) (m := m) (v := v) h hb)
  generalize FldsP w (fldsL l k) = PP at *
  generalize fldsL l k = R at *
  clear hA hn hl hR0
  go_enter Tryz.func99, Tryz.ntmps99
  by_cases h16 : 16 < n
  · have d0 : decide ((16 : Int) < (n : Int)) = true := by simp; omega
    have E := kd (RE.out.trans (if_pos h16))
    clear RE
    go_wp2_with fail
    first | exact BAD.out _ E.out (Below.refl _ _) | (go_ret2; exact BAD.out _ E.out (Below.refl _ _))
  have d0 : decide ((16 : Int) < (n : Int)) = false := by simp; omega
  have RE2 := kd (RE.out.trans (if_neg h16))
  have n16 : n ≤ 16 := by omega
  clear RE h16 hN
  go_wp2_with fail
  go_loopw [6, 14] (fun v6 v14 wr => ∃ (j : Nat) (m : List Pm) (v : Value), j ≤ n ∧ m.length ≤ j ∧ v6 = v ∧ v14 = .int .i64 j ∧ Hid (R0 = fldsN k (l.drop j) m) ∧ Hid (VX 56 3 w v m.length (pms m) wr) ∧ Hid (∀ p ∈ m, By p.n ∧ By p.v)) (fun _ v _ => n - (intOf v).toNat)
  case atStart => exact ⟨0, [], _, Nat.zero_le _, Nat.le_refl _, rfl, rfl, kd (by rw [List.drop_zero]; exact R0E.out.symm), kd (VX.nil _ _ _), kd (fun p hp => by cases hp)⟩
  case round =>
    clear d0
    obtain ⟨j, m, v, hj, hmj, rfl, rfl, RN, HV, MB⟩ := hrel
    by_cases hlt : j < n
    · have hd : decide (j < n) = true := by simp [hlt]
      have hd2 : decide ((j : Int) < (n : Int)) = true := by simp; omega
      obtain ⟨p, hp⟩ : ∃ p, l[j]? = some p := ⟨_, List.getElem?_eq_getElem (by rw [HN.out]; exact hlt)⟩
      obtain ⟨x1, o1, rfl, hx1, hc1⟩ := HA.out (by rw [pms_len, HN.out]; omega)
      have G1 := kd (show wr.rangeAt x1 (o1 + j * 3) (pmC p) from fun i v hv => (HV.out.bw.cell (p := ⟨x1, _, none⟩) hx1).trans (Rds.range2 hc1 (j * 3) _ (pms_at hp) i v hv))
      obtain ⟨pnb, pvb, pnl, pvl⟩ := HL.out p (List.mem_of_getElem? hp)
      have RN2 := kd (show R0 = _ by rw [RN.out, dropPm hp, fldsN_cons])
      clear hc1 hp RN hd
      obtain ⟨pn, pv, ph⟩ := p
      dsimp only at pnb pvb pnl pvl RN2
      have G2 := kd (show wr.rangeAt x1 (o1 + j * 3) [.string (strOfNums pn), .string (strOfNums pv), .bool ph] from G1.out)
      have LW := kd (fun w => adlower_any (strOfNums pn) w (by rw [num_size]; exact pnl))
      rw [byteL_str pnb] at LW
      have NB := lowS_by pnb
      have NL : (lowS pn).length ≤ 4000000 := by rw [lowS_len]; exact pnl
      obtain ⟨nm, hnm⟩ : ∃ nm, lowS pn = nm := ⟨_, rfl⟩
      rw [hnm] at LW RN2 NB NL
      have CN := kd (fun w => adclean_any (strOfNums nm) w (by rw [num_size]; exact NL))
      rw [byteL_str NB] at CN
      have CV := kd (fun w => adclean_any (strOfNums pv) w (by rw [num_size]; exact pvl))
      rw [byteL_str pvb] at CV
      have EN := empty_beq nm
      have EV := empty_beq pv
      have EV2 : ((strOfNums pv).toList != ([] : List UInt8)) = !pv.isEmpty := by rw [bne, EV]
      have HNB := kd NB
      have HVB := kd pvb
      have RP := kd (Row.new wr 56 [.string (strOfNums pn), .string (strOfNums pv), .bool ph])
      have V1 := kd (HV.out.step ((Below.refl _ _).alloc (Nat.le_refl _) (.cells #[.string (strOfNums pn), .string (strOfNums pv), .bool ph] 56)))
      have NE := kd (VX.own_ne HV.out)
      have GE := kd (show w.heap.size ≤ wr.heap.size from HV.out.bw.size)
      clear G1 pnb pvb pnl pvl NB NL hnm HV
      go_upto_region 7 with (with_reducible refine wpList_load_mid rfl 56 (.tmp 16) rfl x1 (o1 + j * 3) rfl [.string (strOfNums pn), .string (strOfNums pv), .bool ph] _ G2.out Tryz.underlying56 rfl (sizePm _ _ _) ?_)
      generalize wr.alloc (.cells #[.string (strOfNums pn), .string (strOfNums pv), .bool ph] 56) = w2 at *
      generalize wr.heap.size = pb at *
      have k0 : w2.cell? ⟨pb, 0, none⟩ = some (.string (strOfNums pn)) := RP.out.cell 0
      go_wp2_with fail
      refine (LW.out w2).mono ?_
      rintro e w3 ⟨rfl, hb⟩
      have RP3 := kd (RP.out.below hb)
      have V3 := kd (V1.out.step hb)
      clear k0 hb RP V1 LW G2
      have f0 : w3.frozen? ⟨pb, 0, none⟩ = false := RP3.out.frozen 0
      have k0 : w3.cell? ⟨pb, 0, none⟩ = some (.string (strOfNums pn)) := RP3.out.cell 0
      have RP4 := kd (show Row (w3.setCell ⟨pb, 0, none⟩ (.string (strOfNums nm))) pb 56 [.string (strOfNums nm), .string (strOfNums pv), .bool ph] from RP3.out.set 0 _)
      have V4 := kd (V3.out.other (V3.out.bw.setCell GE.out (.string (strOfNums nm))) (fun g hg => Below.heap_setCell w3 ⟨pb, 0, none⟩ (.string (strOfNums nm)) g (NE.out g hg)))
      go_upto_region 8 with (fail)
      clear k0 f0 RP3 V3
      generalize w3.setCell ⟨pb, 0, none⟩ (.string (strOfNums nm)) = w4 at *
      have k0 : w4.cell? ⟨pb, 0, none⟩ = some (.string (strOfNums nm)) := RP4.out.cell 0
      have k1 : w4.cell? ⟨pb, 1, none⟩ = some (.string (strOfNums pv)) := RP4.out.cell 1
      have HO := kd (fun (A : Option Addr) (c : Nat) (hR : Rds w4 w4.heap.size A (pms m)) => holds_any A m.length c m nm w4 hR rfl (by omega) (fun p hp => (MB.out p hp).1) HNB.out)
      obtain ⟨K2, A2, c2, hv2, hnil2, hK2, hRd2⟩ := V4.out.whole
      subst hv2
      have HO2 := kd (HO.out A2 c2 (hRd2 w4 fun r hr => (hK2 r hr).1))
      clear hnil2 hK2 hRd2 HO
      by_cases b1 : nm = []
      · have E := kd (show R = none by rw [RE2.out, RN2.out, if_pos (.inl b1)]; rfl)
        have q1 : ((strOfNums nm).toList == ([] : List UInt8)) = true := by rw [EN, b1]; rfl
        clear EN RN2 RE2 EV EV2 b1
        go_wp2_with fail
        first | exact BAD.out _ E.out V4.out.bw | (go_ret2; exact BAD.out _ E.out V4.out.bw)
      have q1 : ((strOfNums nm).toList == ([] : List UInt8)) = false := by rw [EN]; simpa using b1
      clear EN
      cases b2 : clean nm with
      | false =>
        rw [b2] at CN
        have E := kd (show R = none by rw [RE2.out, RN2.out, if_pos (.inr (.inl b2))]; rfl)
        clear RN2 RE2 EV EV2 b1
        go_wp2_with fail
        refine (CN.out _).mono ?_
        rintro _ _ ⟨rfl, rfl⟩
        go_wp2_with fail
        first | exact BAD.out _ E.out V4.out.bw | (go_ret2; exact BAD.out _ E.out V4.out.bw)
      | true =>
      rw [b2] at CN
      go_wp2_with fail
      refine (CN.out _).mono ?_
      rintro _ _ ⟨rfl, rfl⟩
      clear CN
      cases b3 : clean pv with
      | false =>
        rw [b3] at CV
        have E := kd (show R = none by rw [RE2.out, RN2.out, if_pos (.inr (.inr (.inl b3)))]; rfl)
        clear RN2 RE2 EV EV2 b1
        go_wp2_with fail
        refine (CV.out _).mono ?_
        rintro _ _ ⟨rfl, rfl⟩
        go_wp2_with fail
        first | exact BAD.out _ E.out V4.out.bw | (go_ret2; exact BAD.out _ E.out V4.out.bw)
      | true =>
      rw [b3] at CV
      go_wp2_with fail
      refine (CV.out _).mono ?_
      rintro _ _ ⟨rfl, rfl⟩
      clear CV
      go_wp2_with fail
      refine HO2.out.mono ?_
      rintro _ w5 ⟨rfl, hb5⟩
      have RP5 := kd (RP4.out.below hb5)
      have V5 := kd (V4.out.step hb5)
      clear k0 k1 hb5 RP4 V4 HO2
      cases b4 : holdsL m nm with
      | true =>
        have E := kd (show R = none by rw [RE2.out, RN2.out, if_pos (.inr (.inr (.inr b4)))]; rfl)
        clear RN2 RE2 EV EV2 b1
        go_wp2_with fail
        first | exact BAD.out _ E.out V5.out.bw | (go_ret2; exact BAD.out _ E.out V5.out.bw)
      | false =>
      have RN3 := kd (RN2.out.trans (if_neg (fun h => by
        rcases h with h | h | h | h
        · exact b1 h
        · rw [b2] at h; cases h
        · rw [b3] at h; cases h
        · rw [b4] at h; cases h)))
      clear RN2 b1 b2 b3 b4 q1
      have k1 : w5.cell? ⟨pb, 1, none⟩ = some (.string (strOfNums pv)) := RP5.out.cell 1
      have k2 : w5.cell? ⟨pb, 2, none⟩ = some (.bool ph) := RP5.out.cell 2
      rcases hk with rfl | rfl
      · cases ph
        case false =>
          cases hv : pv.isEmpty with
          | true =>
            have hv0 := hv
            rw [hv] at EV EV2
            have E := kd (RN3.out.trans (if_neg (by first | (rw [hv]; decide) | (rw [hv0]; decide))))
            clear RN3 hv0
            go_wp2_with (first
              | (with_reducible refine wpList_loadR rfl 56 (.tmp 8) rfl RP5.out rfl Tryz.underlying56 rfl (sizePm _ _ _) ?_)
              | (with_reducible refine wpList_pushF rfl (.tmp 62) (.tmp 64) rfl rfl V5.out ⟨nm, pv, false⟩ rfl (by omega) ?_))
            intro v9 w9 V9
            go_wp2_with fail
            go_roundw
            case rel => exact ⟨j + 1, m ++ [(⟨nm, pv, false⟩ : Pm)], _, by omega, by rw [List.length_append, List.length_singleton]; omega, rfl, by go_num, E, kd (show VX 56 3 w v9 (m ++ [(⟨nm, pv, false⟩ : Pm)]).length _ w9 by rw [List.length_append]; exact V9.out), kd (fun p hp => by
              rcases List.mem_append.1 hp with hp | hp
              · exact MB.out p hp
              · rw [List.mem_singleton] at hp; subst hp; exact ⟨HNB.out, HVB.out⟩)⟩
            case measure => simp [intOf]; omega
          | false =>
            have hv0 := hv
            rw [hv] at EV EV2
            have E := kd (show R = none by rw [RE2.out, RN3.out, if_pos (by first | exact .inl ⟨rfl, rfl⟩ | exact .inr ⟨rfl, by first | (rw [hv]; decide) | (rw [hv0]; decide)⟩)]; rfl)
            clear RN3 RE2 hv0
            go_wp2_with fail
            first | exact BAD.out _ E.out V5.out.bw | (go_ret2; exact BAD.out _ E.out V5.out.bw)
        case true =>
          cases hv : pv.isEmpty with
          | true =>
            have hv0 := hv
            rw [hv] at EV EV2
            have E := kd (show R = none by rw [RE2.out, RN3.out, if_pos (by first | exact .inl ⟨rfl, rfl⟩ | exact .inr ⟨rfl, by first | (rw [hv]; decide) | (rw [hv0]; decide)⟩)]; rfl)
            clear RN3 RE2 hv0
            go_wp2_with fail
            first | exact BAD.out _ E.out V5.out.bw | (go_ret2; exact BAD.out _ E.out V5.out.bw)
          | false =>
            have hv0 := hv
            rw [hv] at EV EV2
            have E := kd (RN3.out.trans (if_neg (by first | (rw [hv]; decide) | (rw [hv0]; decide))))
            clear RN3 hv0
            go_wp2_with (first
              | (with_reducible refine wpList_loadR rfl 56 (.tmp 8) rfl RP5.out rfl Tryz.underlying56 rfl (sizePm _ _ _) ?_)
              | (with_reducible refine wpList_pushF rfl (.tmp 62) (.tmp 64) rfl rfl V5.out ⟨nm, pv, true⟩ rfl (by omega) ?_))
            intro v9 w9 V9
            go_wp2_with fail
            go_roundw
            case rel => exact ⟨j + 1, m ++ [(⟨nm, pv, true⟩ : Pm)], _, by omega, by rw [List.length_append, List.length_singleton]; omega, rfl, by go_num, E, kd (show VX 56 3 w v9 (m ++ [(⟨nm, pv, true⟩ : Pm)]).length _ w9 by rw [List.length_append]; exact V9.out), kd (fun p hp => by
              rcases List.mem_append.1 hp with hp | hp
              · exact MB.out p hp
              · rw [List.mem_singleton] at hp; subst hp; exact ⟨HNB.out, HVB.out⟩)⟩
            case measure => simp [intOf]; omega
      · cases ph
        case false =>
          cases hv : pv.isEmpty with
          | true =>
            have hv0 := hv
            rw [hv] at EV EV2
            have E := kd (show R = none by rw [RE2.out, RN3.out, if_pos (by first | exact .inl ⟨rfl, rfl⟩ | exact .inr ⟨rfl, by first | (rw [hv]; decide) | (rw [hv0]; decide)⟩)]; rfl)
            clear RN3 RE2 hv0
            go_wp2_with fail
            first | exact BAD.out _ E.out V5.out.bw | (go_ret2; exact BAD.out _ E.out V5.out.bw)
          | false =>
            have hv0 := hv
            rw [hv] at EV EV2
            have E := kd (show R = none by rw [RE2.out, RN3.out, if_pos (by first | exact .inl ⟨rfl, rfl⟩ | exact .inr ⟨rfl, by first | (rw [hv]; decide) | (rw [hv0]; decide)⟩)]; rfl)
            clear RN3 RE2 hv0
            go_wp2_with fail
            first | exact BAD.out _ E.out V5.out.bw | (go_ret2; exact BAD.out _ E.out V5.out.bw)
        case true =>
          cases hv : pv.isEmpty with
          | true =>
            have hv0 := hv
            rw [hv] at EV EV2
            have E := kd (RN3.out.trans (if_neg (by first | (rw [hv]; decide) | (rw [hv0]; decide))))
            clear RN3 hv0
            go_wp2_with (first
              | (with_reducible refine wpList_loadR rfl 56 (.tmp 8) rfl RP5.out rfl Tryz.underlying56 rfl (sizePm _ _ _) ?_)
              | (with_reducible refine wpList_pushF rfl (.tmp 62) (.tmp 64) rfl rfl V5.out ⟨nm, pv, true⟩ rfl (by omega) ?_))
            intro v9 w9 V9
            go_wp2_with fail
            go_roundw
            case rel => exact ⟨j + 1, m ++ [(⟨nm, pv, true⟩ : Pm)], _, by omega, by rw [List.length_append, List.length_singleton]; omega, rfl, by go_num, E, kd (show VX 56 3 w v9 (m ++ [(⟨nm, pv, true⟩ : Pm)]).length _ w9 by rw [List.length_append]; exact V9.out), kd (fun p hp => by
              rcases List.mem_append.1 hp with hp | hp
              · exact MB.out p hp
              · rw [List.mem_singleton] at hp; subst hp; exact ⟨HNB.out, HVB.out⟩)⟩
            case measure => simp [intOf]; omega
          | false =>
            have hv0 := hv
            rw [hv] at EV EV2
            have E := kd (RN3.out.trans (if_neg (by first | (rw [hv]; decide) | (rw [hv0]; decide))))
            clear RN3 hv0
            go_wp2_with (first
              | (with_reducible refine wpList_loadR rfl 56 (.tmp 8) rfl RP5.out rfl Tryz.underlying56 rfl (sizePm _ _ _) ?_)
              | (with_reducible refine wpList_pushF rfl (.tmp 62) (.tmp 64) rfl rfl V5.out ⟨nm, pv, true⟩ rfl (by omega) ?_))
            intro v9 w9 V9
            go_wp2_with fail
            go_roundw
            case rel => exact ⟨j + 1, m ++ [(⟨nm, pv, true⟩ : Pm)], _, by omega, by rw [List.length_append, List.length_singleton]; omega, rfl, by go_num, E, kd (show VX 56 3 w v9 (m ++ [(⟨nm, pv, true⟩ : Pm)]).length _ w9 by rw [List.length_append]; exact V9.out), kd (fun p hp => by
              rcases List.mem_append.1 hp with hp | hp
              · exact MB.out p hp
              · rw [List.mem_singleton] at hp; subst hp; exact ⟨HNB.out, HVB.out⟩)⟩
            case measure => simp [intOf]; omega
    · obtain rfl : j = n := by omega
      have hd2 : decide ((j : Int) < (j : Int)) = false := by simp
      have E := kd (show R0 = some m by rw [RN.out, List.drop_of_length_le (by rw [HN.out]; exact Nat.le_refl _)]; rfl)
      obtain ⟨e1, _, _, e2⟩ := fldsN_some PB.out (R0E.out.trans E.out)
      rw [List.nil_append] at e1
      rw [← e1] at e2
      have ER := kd (show R = some (sortPm m) by rw [RE2.out, E.out]; rfl)
      have ND := kd e2
      obtain ⟨K2, A2, c2, hv2, hnil2, hK2, hRd2⟩ := HV.out.whole
      subst hv2
      have SO := kd (sorted_any A2 m.length c2 m wr rfl (hRd2 wr fun r hr => (hK2 r hr).1) hnil2 (by omega) MB.out)
      clear E e1 e2 RN RE2 hnil2 hK2 hRd2
      go_wp2_with fail
      refine SO.out.mono ?_
      rintro _ w3 ⟨v3, m3, rfl, hS⟩
      have EM := kd (asc_sort hS.p hS.a ND.out)
      have VS := kd (hS.x.base HV.out.bw)
      rw [EM.out] at VS
      clear hS SO
      go_wp2_with fail
      first | exact GOOD.out _ _ _ ER.out VS.out | (go_ret2; exact GOOD.out _ _ _ ER.out VS.out)

structure UArg (w : World) (u : Uri) (A1 A2 : Option Addr) : Prop where
  by_ : UriBy u
  n1 : u.sc.length ≤ 4000000
  n2 : u.us.length ≤ 4000000
  n3 : u.ho.length ≤ 4000000
  s1 : ∀ p ∈ u.ps, pmSz p
  s2 : ∀ p ∈ u.hs, pmSz p
  r1 : Rds w w.heap.size A1 (pms u.ps)
  r2 : Rds w w.heap.size A2 (pms u.hs)
  l1 : u.ps.length ≤ 16000000
  l2 : u.hs.length ≤ 16000000
def NormP (w : World) (R : Option Uri) (e : Ending) (w' : World) : Prop := match R with
  | none => e = .returned (.tuple #[.agg #[.string ⟨#[]⟩, .string ⟨#[]⟩, .string ⟨#[]⟩, .int .i64 0, .slice none 0 0, .slice none 0 0], .int .u8 2]) ∧ Below w.heap.size w w'
  | some n => ∃ v1 v2, e = .returned (.tuple #[.agg #[.string (strOfNums n.sc), .string (strOfNums n.us), .string (strOfNums n.ho), .int .i64 n.po, v1, v2], .int .u8 0]) ∧ VX 56 3 w v1 n.ps.length (pms n.ps) w' ∧ VX 56 3 w v2 n.hs.length (pms n.hs) w'
theorem NormP.bad {w w' : World} {R : Option Uri} (h : R = none) (hb : Below w.heap.size w w') : NormP w R (.returned (.tuple #[.agg #[.string ⟨#[]⟩, .string ⟨#[]⟩, .string ⟨#[]⟩, .int .i64 0, .slice none 0 0, .slice none 0 0], .int .u8 2])) w' := by subst h; exact ⟨rfl, hb⟩
theorem NormP.good {w w' : World} {R : Option Uri} {sc us ho : List Int} {po : Int} {ps hs : List Pm} {v1 v2 : Value} (h : R = some ⟨sc, us, ho, po, ps, hs⟩) (h1 : VX 56 3 w v1 ps.length (pms ps) w') (h2 : VX 56 3 w v2 hs.length (pms hs) w') : NormP w R (.returned (.tuple #[.agg #[.string (strOfNums sc), .string (strOfNums us), .string (strOfNums ho), .int .i64 po, v1, v2], .int .u8 0])) w' := by subst h; exact ⟨v1, v2, rfl, h1, h2⟩
theorem zeroU : (Tryz.prog.info? 32).bind (·.zero) = some (.agg ([.string ⟨#[]⟩, .string ⟨#[]⟩, .string ⟨#[]⟩, .int .i64 0, .slice none 0 0, .slice none 0 0] : List Value).toArray) := by kernel_rfl
def FineOf (u : Uri) (fn : Bool) (ho : List Int) : Prop := normL u = match fldsL u.ps 1, fldsL u.hs 2 with
  | some ps, some hs => if fn = true then some ⟨lowS u.sc, u.us, ho, u.po, ps, hs⟩ else none
  | _, _ => none
theorem fine_sip {u : Uri} (h : lowS u.sc = SIPT ∨ lowS u.sc = SIPST) : FineOf u ((((hostL u.ho).isSome && decide (0 ≤ u.po)) && decide (u.po ≤ 65535)) && clean u.us) ((hostL u.ho).getD []) := by
  unfold FineOf normL
  dsimp only
  cases fldsL u.ps 1 with
  | none => rfl
  | some ps =>
    cases fldsL u.hs 2 with
    | none => rfl
    | some hs =>
      dsimp only
      rw [if_pos h]
      cases hostL u.ho with
      | none => rfl
      | some h' =>
        dsimp only
        by_cases hp : 0 ≤ u.po ∧ u.po ≤ 65535 ∧ clean u.us = true
        · rw [if_pos hp, if_pos (by simp [hp])]; rfl
        · rw [if_neg hp, if_neg (by simp; intro a b; simpa [a, b] using hp)]
theorem fine_tel {u : Uri} (h : lowS u.sc = TELT) : FineOf u (((u.ho.isEmpty && decide (u.po = 0)) && decide (u.hs.length = 0)) && dialedL u.us) [] := by
  unfold FineOf normL
  dsimp only
  cases fldsL u.ps 1 with
  | none => rfl
  | some ps =>
    cases fldsL u.hs 2 with
    | none => rfl
    | some hs =>
      dsimp only
      rw [h, if_neg (by decide), if_pos rfl]
      by_cases hp : u.ho = [] ∧ u.po = 0 ∧ u.hs = [] ∧ dialedL u.us = true
      · rw [if_pos hp, if_pos (by simp [hp]), hp.2.1]
      · rw [if_neg hp, if_neg (by simp; intro a b c; simpa [a, b, c] using hp)]
theorem fine_no {u : Uri} (h : ¬ (lowS u.sc = SIPT ∨ lowS u.sc = SIPST)) (h2 : lowS u.sc ≠ TELT) : FineOf u false [] := by
  unfold FineOf normL
  dsimp only
  cases fldsL u.ps 1 with
  | none => rfl
  | some ps =>
    cases fldsL u.hs 2 with
    | none => rfl
    | some hs =>
      dsimp only
      rw [if_neg h, if_neg h2]; rfl
theorem vx_set2 {w0 W : World} {b : Nat} {us : List Value} {v u4 u5 : Value} {n : Nat} {cs : List Value} (X : VX 56 3 w0 v n cs W) (hr : Row W b 32 us) (hb : w0.heap.size ≤ b) : VX 56 3 w0 v n cs ((W.setCell ⟨b, 4, none⟩ u4).setCell ⟨b, 5, none⟩ u5) :=
  X.other ((X.bw.setCell hb u4).setCell hb u5) fun g hg => by
    have hne := rowT_nv hr X (by decide) g hg
    rw [Below.heap_setCell _ ⟨b, 5, none⟩ u5 g hne, Below.heap_setCell _ ⟨b, 4, none⟩ u4 g hne]
theorem vx_grown {w0 W W' : World} {b : Nat} {us : List Value} {v : Value} {n : Nat} {cs : List Value} (X : VX 56 3 w0 v n cs W) (hr : Row W b 32 us) (hb : w0.heap.size ≤ b) (hg : W.grownBy W' (some b)) : VX 56 3 w0 v n cs W' :=
  X.other (X.bw.grown hg X.bw.size (fun k hk => by cases hk; exact hb)) fun g hg2 => hg.block g (X.own_lt hg2) (fun e => rowT_nv hr X (by decide) g hg2 (Option.some.inj e))
theorem normal_any (u : Uri) (A1 A2 : Option Addr) (c1 c2 : Nat) (w : World) (H : UArg w u A1 A2) (hG : GM w) (hP : PT w) :
    Calls Tryz.prog 33 #[.agg #[.string (strOfNums u.sc), .string (strOfNums u.us), .string (strOfNums u.ho), .int .i64 u.po, .slice A1 u.ps.length c1, .slice A2 u.hs.length c2]] w (NormP w (normL u)) := by
  have HH := kd H; have HG := kd hG; have HP := kd hP
  have BAD := kd (fun w' h hb => NormP.bad (w := w) (w' := w') (R := normL u) h hb)
  have GOOD := kd (fun w' sc us ho po ps hs v1 v2 (h : normL u = some ⟨sc, us, ho, po, ps, hs⟩) h1 h2 => NormP.good (w := w) (w' := w') (v1 := v1) (v2 := v2) h h1 h2)
  have FN := kd (fun fn ho (h : FineOf u fn ho) => h)
  have ST := kd (show Mine w ((w.alloc (.cells ([.string (strOfNums u.sc), .string (strOfNums u.us), .string (strOfNums u.ho), .int .i64 u.po, .slice A1 u.ps.length c1, .slice A2 u.hs.length c2] : List Value).toArray 32)).alloc (.cells ([.string ⟨#[]⟩, .string ⟨#[]⟩, .string ⟨#[]⟩, .int .i64 0, .slice none 0 0, .slice none 0 0] : List Value).toArray 32)) [(w.heap.size + 1, 32, [.string ⟨#[]⟩, .string ⟨#[]⟩, .string ⟨#[]⟩, .int .i64 0, .slice none 0 0, .slice none 0 0]), (w.heap.size, 32, [.string (strOfNums u.sc), .string (strOfNums u.us), .string (strOfNums u.ho), .int .i64 u.po, .slice A1 u.ps.length c1, .slice A2 u.hs.length c2])] [(fun W => Rds W W.heap.size A2 (pms u.hs)), (fun W => Rds W W.heap.size A1 (pms u.ps))] from by
    have h := ((Mine.refl w).alloc 32 [.string (strOfNums u.sc), .string (strOfNums u.us), .string (strOfNums u.ho), .int .i64 u.po, .slice A1 u.ps.length c1, .slice A2 u.hs.length c2]).alloc 32 [.string ⟨#[]⟩, .string ⟨#[]⟩, .string ⟨#[]⟩, .int .i64 0, .slice none 0 0, .slice none 0 0]
    rw [World.size_alloc] at h
    have h0 : ∀ A cs, Rds w w.heap.size A cs → Stab [(w.heap.size + 1, 32, [.string ⟨#[]⟩, .string ⟨#[]⟩, .string ⟨#[]⟩, .int .i64 0, .slice none 0 0, .slice none 0 0]), (w.heap.size, 32, [.string (strOfNums u.sc), .string (strOfNums u.us), .string (strOfNums u.ho), .int .i64 u.po, .slice A1 u.ps.length c1, .slice A2 u.hs.length c2])] ((w.alloc (.cells ([.string (strOfNums u.sc), .string (strOfNums u.us), .string (strOfNums u.ho), .int .i64 u.po, .slice A1 u.ps.length c1, .slice A2 u.hs.length c2] : List Value).toArray 32)).alloc (.cells ([.string ⟨#[]⟩, .string ⟨#[]⟩, .string ⟨#[]⟩, .int .i64 0, .slice none 0 0, .slice none 0 0] : List Value).toArray 32)) (fun W => Rds W W.heap.size A cs) := fun A cs hR => by
      have hb : Below w.heap.size w ((w.alloc (.cells ([.string (strOfNums u.sc), .string (strOfNums u.us), .string (strOfNums u.ho), .int .i64 u.po, .slice A1 u.ps.length c1, .slice A2 u.hs.length c2] : List Value).toArray 32)).alloc (.cells ([.string ⟨#[]⟩, .string ⟨#[]⟩, .string ⟨#[]⟩, .int .i64 0, .slice none 0 0, .slice none 0 0] : List Value).toArray 32)) := h.bw
      by_cases hn : 0 < cs.length
      · obtain ⟨x, o, e, hx, hc⟩ := hR hn
        refine stab_rds ((hR.below hb).up hb.size) fun b o' s' e2 hm => ?_
        rw [e] at e2
        injection e2 with e2
        injection e2 with e2
        subst e2
        simp only [List.map_cons, List.map_nil, List.mem_cons, List.not_mem_nil, or_false] at hm
        omega
      · intro W _ h2; exact absurd h2 hn
    exact (h.add (h0 A1 _ H.r1)).add (h0 A2 _ H.r2))
  have LW := kd (fun w => adlower_any (strOfNums u.sc) w (by rw [num_size]; exact H.n1))
  rw [byteL_str H.by_.sc] at LW
  have HSB := kd (lowS_by H.by_.sc)
  obtain ⟨sc, hsc⟩ : ∃ sc, lowS u.sc = sc := ⟨_, rfl⟩
  rw [hsc] at LW HSB
  have ESC := kd hsc
  clear hsc H hG hP
  have HO := kd (fun w hg hp => adhost_any (strOfNums u.ho) w (by rw [num_size]; exact HH.out.n3) hg hp)
  rw [byteL_str HH.out.by_.ho] at HO
  have CU := kd (fun w => adclean_any (strOfNums u.us) w (by rw [num_size]; exact HH.out.n2))
  rw [byteL_str HH.out.by_.us] at CU
  have DU := kd (fun w => dialed_any (strOfNums u.us) w (by rw [num_size]; exact HH.out.n2))
  rw [byteL_str HH.out.by_.us] at DU
  have EH := kd (empty_beq u.ho)
  have F1 := kd (fun W (h : Rds W W.heap.size A1 (pms u.ps)) => fields_any A1 u.ps.length c1 u.ps 1 W h rfl HH.out.l1 HH.out.s1 (.inl rfl))
  have F2 := kd (fun W (h : Rds W W.heap.size A2 (pms u.hs)) => fields_any A2 u.hs.length c2 u.hs 2 W h rfl HH.out.l2 HH.out.s2 (.inr rfl))
  clear HH
  generalize hPP : NormP w (normL u) = PP at *
  clear hPP
  go_enter Tryz.func33, Tryz.ntmps33
  go_upto_region 1 with (fail)
  generalize (w.alloc (.cells #[.string (strOfNums u.sc), .string (strOfNums u.us), .string (strOfNums u.ho), .int .i64 u.po, .slice A1 u.ps.length c1, .slice A2 u.hs.length c2] 32)).alloc (.cells #[.string ⟨#[]⟩, .string ⟨#[]⟩, .string ⟨#[]⟩, .int .i64 0, .slice none 0 0, .slice none 0 0] 32) = w1 at *
  obtain ⟨b1, hb1⟩ : ∃ b, b = w.heap.size := ⟨_, rfl⟩
  obtain ⟨b2, hb2⟩ : ∃ b, b = w.heap.size + 1 := ⟨_, rfl⟩
  rw [← hb2, ← hb1] at ST
  try rw [← hb2]
  try rw [← hb1]
  clear hb1 hb2
  refine region_put (by kernel_rfl) (by kernel_rfl) (fun j W v => v = ([.pointer (some ⟨b1, 0, none⟩), .string (strOfNums u.sc), .string (strOfNums sc), .pointer (some ⟨b1, 1, none⟩), .string (strOfNums u.us), .pointer (some ⟨b1, 3, none⟩), .int .i64 u.po, .agg #[.string (strOfNums sc), .string (strOfNums u.us), .string ⟨#[]⟩, .int .i64 u.po, .slice none 0 0, .slice none 0 0], undef, undef] : List Value).getD j undef) 8 9 7 4 17 32 32 [.string ⟨#[]⟩, .string ⟨#[]⟩, .string ⟨#[]⟩, .int .i64 0, .slice none 0 0, .slice none 0 0] (by kernel_rfl) (by kernel_rfl) _ _ _ rfl rfl ?halloc rfl rfl rfl rfl rfl (by kernel_rfl) (by kernel_rfl) (by decide) (by decide) (sizeU _ _ _ _ _ _)
    (fun W v h => ⟨[.string (strOfNums sc), .string (strOfNums u.us), .string ⟨#[]⟩, .int .i64 u.po, .slice none 0 0, .slice none 0 0], h, rfl, u_one _ _ _ _⟩) (fun _ _ _ _ _ h => h) (fun _ _ _ _ _ _ _ _ h => h) ?hstep ?hend
  case halloc => exact fun W ev => exec_alloc rfl zeroU
  case hstep =>
    intro j o h1 h2 ho a' W hB hF hD
    have RA := (ST.out.row (i := 1) rfl).below hB
    match j, ho with
    | 0, ho =>
      obtain rfl := Option.some.inj ho
      exact wp_fa1 32 (.tmp 1) 0 rfl b1 0 ((free_eval hF (by kernel_rfl)).trans rfl) (fun w => by kernel_rfl) ⟨_, rfl, Below.refl _ _, rfl⟩
    | 1, ho =>
      obtain rfl := Option.some.inj ho
      exact wp_ldc1 9 (.tmp 10) rfl b1 0 (.string (strOfNums u.sc)) (dep_eval hD 0 (by kernel_rfl) rfl rfl) (RA.cell 0) _ Tryz.underlying9 rfl ⟨_, rfl, Below.refl _ _, rfl⟩
    | 2, ho =>
      obtain rfl := Option.some.inj ho
      have hx : a'.eval (.tmp 11) = .string (strOfNums u.sc) := dep_eval hD 1 (by kernel_rfl) rfl rfl
      refine wp_call1 60 _ _ rfl #[.string (strOfNums u.sc)] (by simp only [List.map_toArray, List.map_cons, List.map_nil, hx]) (enters_of Tryz.func60 (by kernel_rfl) rfl) ((LW.out W).mono ?_)
      rintro e W2 ⟨rfl, hb⟩
      exact ⟨_, rfl, _, rfl, hb, rfl⟩
    | 3, ho =>
      obtain rfl := Option.some.inj ho
      exact wp_fa1 32 (.tmp 1) 1 rfl b1 1 ((free_eval hF (by kernel_rfl)).trans rfl) (fun w => by kernel_rfl) ⟨_, rfl, Below.refl _ _, rfl⟩
    | 4, ho =>
      obtain rfl := Option.some.inj ho
      exact wp_ldc1 9 (.tmp 13) rfl b1 1 (.string (strOfNums u.us)) (dep_eval hD 3 (by kernel_rfl) rfl rfl) (RA.cell 1) _ Tryz.underlying9 rfl ⟨_, rfl, Below.refl _ _, rfl⟩
    | 5, ho =>
      obtain rfl := Option.some.inj ho
      exact wp_fa1 32 (.tmp 1) 3 rfl b1 3 ((free_eval hF (by kernel_rfl)).trans rfl) (fun w => by kernel_rfl) ⟨_, rfl, Below.refl _ _, rfl⟩
    | 6, ho =>
      obtain rfl := Option.some.inj ho
      exact wp_ldc1 3 (.tmp 15) rfl b1 3 (.int .i64 u.po) (dep_eval hD 5 (by kernel_rfl) rfl rfl) (RA.cell 3) _ Tryz.underlying3 rfl ⟨_, rfl, Below.refl _ _, rfl⟩
    | 7, ho =>
      obtain rfl := Option.some.inj ho
      have hx1 : a'.eval (.tmp 12) = .string (strOfNums sc) := dep_eval hD 2 (by kernel_rfl) rfl rfl
      have hx2 : a'.eval (.tmp 14) = .string (strOfNums u.us) := dep_eval hD 4 (by kernel_rfl) rfl rfl
      have hx3 : a'.eval (.tmp 16) = .int .i64 u.po := dep_eval hD 6 (by kernel_rfl) rfl rfl
      exact wp_build1 32 _ rfl [(0, .string (strOfNums sc)), (1, .string (strOfNums u.us)), (3, .int .i64 u.po)] (by simp only [List.map_toArray, List.map_cons, List.map_nil, hx1, hx2, hx3]) #[.string (strOfNums sc), .string (strOfNums u.us), .string ⟨#[]⟩, .int .i64 u.po, .slice none 0 0, .slice none 0 0] (by kernel_rfl) ⟨_, rfl, Below.refl _ _, rfl⟩
    | 8, ho => exact absurd rfl h1
    | 9, ho => exact absurd rfl h2
    | j + 10, ho => simp at ho
  case hend =>
  intro vs W b us hB hlen hv hb h8 h7 hR
  obtain ⟨v0, v1, v2, v3, v4, v5, v6, v7, v8, v9, rfl⟩ : ∃ v0 v1 v2 v3 v4 v5 v6 v7 v8 v9, vs = [v0, v1, v2, v3, v4, v5, v6, v7, v8, v9] := by
    match vs, hlen with
    | [v0, v1, v2, v3, v4, v5, v6, v7, v8, v9], _ => exact ⟨_, _, _, _, _, _, _, _, _, _, rfl⟩
  obtain rfl : v0 = .pointer (some ⟨b1, 0, none⟩) := hv 0 _ _ v0 (by decide) rfl rfl rfl
  obtain rfl : v1 = .string (strOfNums u.sc) := hv 1 _ _ v1 (by decide) rfl rfl rfl
  obtain rfl : v2 = .string (strOfNums sc) := hv 2 _ _ v2 (by decide) rfl rfl rfl
  obtain rfl : v3 = .pointer (some ⟨b1, 1, none⟩) := hv 3 _ _ v3 (by decide) rfl rfl rfl
  obtain rfl : v4 = .string (strOfNums u.us) := hv 4 _ _ v4 (by decide) rfl rfl rfl
  obtain rfl : v5 = .pointer (some ⟨b1, 3, none⟩) := hv 5 _ _ v5 (by decide) rfl rfl rfl
  obtain rfl : v6 = .int .i64 u.po := hv 6 _ _ v6 (by decide) rfl rfl rfl
  obtain rfl : v7 = .agg #[.string (strOfNums sc), .string (strOfNums u.us), .string ⟨#[]⟩, .int .i64 u.po, .slice none 0 0, .slice none 0 0] := hv 7 _ _ v7 (by decide) rfl rfl rfl
  obtain rfl : v8 = .pointer (some ⟨b, 0, none⟩) := Option.some.inj h8
  obtain rfl : us = [.string (strOfNums sc), .string (strOfNums u.us), .string ⟨#[]⟩, .int .i64 u.po, .slice none 0 0, .slice none 0 0] := by
    have e := Option.some.inj h7
    injection e with e
    simpa using (congrArg Array.toList e).symm
  replace ST := kd (show Mine w W [(b, 32, [.string (strOfNums sc), .string (strOfNums u.us), .string (strOfNums []), .int .i64 u.po, .slice none 0 0, .slice none 0 0]), (b2, 32, [.string ⟨#[]⟩, .string ⟨#[]⟩, .string ⟨#[]⟩, .int .i64 0, .slice none 0 0, .slice none 0 0]), (b1, 32, [.string (strOfNums u.sc), .string (strOfNums u.us), .string (strOfNums u.ho), .int .i64 u.po, .slice A1 u.ps.length c1, .slice A2 u.hs.length c2])] [(fun W => Rds W W.heap.size A2 (pms u.hs)), (fun W => Rds W W.heap.size A1 (pms u.ps))] from ST.out.join hB hb hR)
  clear hv hlen h8 h7 hb hB hR LW
  simp only [putL, Act.put, List.setIfInBounds_toArray, List.set_cons_zero, List.set_cons_succ]
  clear FN
  have Q1 := lit_beq HSB.out [115, 105, 112]
  have Q2 := lit_beq HSB.out [115, 105, 112, 115]
  have Q3 := lit_beq HSB.out [116, 101, 108]
  rw [show bl [115, 105, 112] = SIPT from rfl] at Q1
  rw [show bl [115, 105, 112, 115] = SIPST from rfl] at Q2
  rw [show bl [116, 101, 108] = TELT from rfl] at Q3
  have HQ1 := kd Q1; have HQ2 := kd Q2; have HQ3 := kd Q3
  have HEH := kd EH.out
  clear Q1 Q2 Q3 HSB
  have c0 : W.cell? ⟨b, 0, none⟩ = some (.string (strOfNums sc)) := (ST.out.row (i := 0) rfl).cell 0
  go_upto_block 0 with (fail)
  go_cut [5] (fun v5 wx => ∃ (fn : Bool) (ho : List Int), v5 = .bool fn ∧ Hid (FineOf u fn ho) ∧ Hid (Mine w wx [(b, 32, [.string (strOfNums sc), .string (strOfNums u.us), .string (strOfNums ho), .int .i64 u.po, .slice none 0 0, .slice none 0 0]), (b2, 32, [.string ⟨#[]⟩, .string ⟨#[]⟩, .string ⟨#[]⟩, .int .i64 0, .slice none 0 0, .slice none 0 0]), (b1, 32, [.string (strOfNums u.sc), .string (strOfNums u.us), .string (strOfNums u.ho), .int .i64 u.po, .slice A1 u.ps.length c1, .slice A2 u.hs.length c2])] [(fun W => Rds W W.heap.size A2 (pms u.hs)), (fun W => Rds W W.heap.size A1 (pms u.ps))]))
  case first =>
    go_upto_if 20 with (fail)
    go_cut [20] (fun v wx => v = .bool (decide (sc = SIPT ∨ sc = SIPST)) ∧ wx = W)
    case first =>
      by_cases h1 : sc = SIPT
      · have q1 : ((strOfNums sc).toList == [115, 105, 112]) = true := HQ1.out.trans (by rw [h1]; rfl)
        rw [q1]
        have d1 := kd (decide_eq_true (p := sc = SIPT ∨ sc = SIPST) (.inl h1))
        clear h1
        go_wp2_with fail
        go_meet
        exact ⟨congrArg Value.bool d1.out.symm, rfl⟩
      · have q1 : ((strOfNums sc).toList == [115, 105, 112]) = false := HQ1.out.trans (by simpa using fun e => h1 e.symm)
        rw [q1]
        by_cases h2 : sc = SIPST
        · have q2 : ((strOfNums sc).toList == [115, 105, 112, 115]) = true := HQ2.out.trans (by rw [h2]; rfl)
          have d1 := kd (decide_eq_true (p := sc = SIPT ∨ sc = SIPST) (.inr h2))
          clear h1 h2
          go_wp2_with fail
          go_meet
          exact ⟨congrArg Value.bool d1.out.symm, rfl⟩
        · have q2 : ((strOfNums sc).toList == [115, 105, 112, 115]) = false := HQ2.out.trans (by simpa using fun e => h2 e.symm)
          have d1 := kd (decide_eq_false (p := sc = SIPT ∨ sc = SIPST) (by rintro (h | h); exact h1 h; exact h2 h))
          clear h1 h2
          go_wp2_with fail
          go_meet
          exact ⟨congrArg Value.bool d1.out.symm, rfl⟩
    case rest =>
      first | (rename_i KK hKK; obtain ⟨rfl, rfl⟩ := hcut; refine hKK _ _ ?_; clear hKK KK) | obtain ⟨rfl, rfl⟩ := hcut
      by_cases hsip : sc = SIPT ∨ sc = SIPST
      · rw [decide_eq_true hsip]
        have FI := fine_sip (u := u) (by rw [ESC.out]; exact hsip)
        have HO2 := kd (HO.out _ (HG.out.below ST.out.bw) (HP.out.below ST.out.bw))
        have k2 := (ST.out.row (i := 2) rfl).cell 2
        simp only [List.getElem?_cons_succ, List.getElem?_cons_zero] at k2
        clear hsip HO HG HP HQ1 HQ2 HQ3 c0 DU
        go_wp2_with fail
        refine HO2.out.mono ?_
        rintro _ w3 ⟨rfl, hb3⟩
        replace ST := kd (ST.out.call hb3)
        clear hb3 HO2 k2
        have f2 := (ST.out.row (i := 0) rfl).frozen 2
        have k2 := (ST.out.row (i := 0) rfl).cell 2
        simp only [List.getElem?_cons_succ, List.getElem?_cons_zero] at k2
        cases hX : hostL u.ho with
        | none =>
          rw [hX] at FI
          have FQ := kd (show FineOf u false [] by simpa using FI)
          rw [show hostV none = .tuple #[.string ⟨#[]⟩, .bool false] from rfl]
          replace ST := kd (show Mine w _ [(b, 32, [.string (strOfNums sc), .string (strOfNums u.us), .string (strOfNums []), .int .i64 u.po, .slice none 0 0, .slice none 0 0]), (b2, 32, [.string ⟨#[]⟩, .string ⟨#[]⟩, .string ⟨#[]⟩, .int .i64 0, .slice none 0 0, .slice none 0 0]), (b1, 32, [.string (strOfNums u.sc), .string (strOfNums u.us), .string (strOfNums u.ho), .int .i64 u.po, .slice A1 u.ps.length c1, .slice A2 u.hs.length c2])] [(fun W => Rds W W.heap.size A2 (pms u.hs)), (fun W => Rds W W.heap.size A1 (pms u.ps))] from ST.out.setCell (i := 0) (off := 2) (.string ⟨#[]⟩) rfl rfl)
          clear FI hX
          go_wp2_with fail
          go_meet
          exact ⟨false, [], rfl, FQ, ST⟩
        | some h =>
          rw [hX] at FI
          rw [show hostV (some h) = .tuple #[.string (strOfNums h), .bool true] from rfl]
          go_upto_region 7 with (fail)
          replace ST := kd (show Mine w _ [(b, 32, [.string (strOfNums sc), .string (strOfNums u.us), .string (strOfNums h), .int .i64 u.po, .slice none 0 0, .slice none 0 0]), (b2, 32, [.string ⟨#[]⟩, .string ⟨#[]⟩, .string ⟨#[]⟩, .int .i64 0, .slice none 0 0, .slice none 0 0]), (b1, 32, [.string (strOfNums u.sc), .string (strOfNums u.us), .string (strOfNums u.ho), .int .i64 u.po, .slice A1 u.ps.length c1, .slice A2 u.hs.length c2])] [(fun W => Rds W W.heap.size A2 (pms u.hs)), (fun W => Rds W W.heap.size A1 (pms u.ps))] from ST.out.setCell (i := 0) (off := 2) (.string (strOfNums h)) rfl rfl)
          clear f2 k2 hX
          generalize w3.setCell ⟨b, 2, none⟩ (.string (strOfNums h)) = w4 at *
          have k3 := (ST.out.row (i := 2) rfl).cell 3
          have k1 := (ST.out.row (i := 2) rfl).cell 1
          simp only [List.getElem?_cons_succ, List.getElem?_cons_zero] at k1 k3
          by_cases p0 : 0 ≤ u.po
          · have d0 : decide (0 ≤ u.po) = true := by simp [p0]
            by_cases p1 : u.po ≤ 65535
            · have d1 : decide (u.po ≤ 65535) = true := by simp [p1]
              have FQ := kd (show FineOf u (clean u.us) h by rw [d0, d1] at FI; simpa using FI)
              clear FI p0 p1
              go_wp2_with fail
              refine (CU.out _).mono ?_
              rintro _ _ ⟨rfl, rfl⟩
              go_wp2_with fail
              go_meet
              exact ⟨clean u.us, h, rfl, FQ, ST⟩
            · have d1 : decide (u.po ≤ 65535) = false := by simp; omega
              have FQ := kd (show FineOf u false h by rw [d1] at FI; simpa using FI)
              clear FI p0 p1
              go_wp2_with fail
              go_meet
              exact ⟨false, h, rfl, FQ, ST⟩
          · have d0 : decide (0 ≤ u.po) = false := by simp; omega
            have FQ := kd (show FineOf u false h by rw [d0] at FI; simpa using FI)
            clear FI p0
            go_wp2_with fail
            go_meet
            exact ⟨false, h, rfl, FQ, ST⟩
      · rw [decide_eq_false hsip]
        have hns : ¬ (lowS u.sc = SIPT ∨ lowS u.sc = SIPST) := by rw [ESC.out]; exact hsip
        clear hsip HO HG HP HQ1 HQ2 c0 CU
        by_cases htel : sc = TELT
        · have q3 : ((strOfNums sc).toList == [116, 101, 108]) = true := HQ3.out.trans (by rw [htel]; rfl)
          have FI := fine_tel (u := u) (by rw [ESC.out]; exact htel)
          clear htel hns
          have k1 := (ST.out.row (i := 2) rfl).cell 1
          have k2 := (ST.out.row (i := 2) rfl).cell 2
          have k3 := (ST.out.row (i := 2) rfl).cell 3
          have k5 := (ST.out.row (i := 2) rfl).cell 5
          simp only [List.getElem?_cons_succ, List.getElem?_cons_zero] at k1 k2 k3 k5
          cases hE : u.ho.isEmpty with
          | false =>
            have q4 : ((strOfNums u.ho).toList == []) = false := HEH.out.trans hE
            have FQ := kd (show FineOf u false [] by rw [hE] at FI; simpa using FI)
            clear FI hE
            go_wp2_with fail
            go_meet
            exact ⟨false, [], rfl, FQ, ST⟩
          | true =>
            have q4 : ((strOfNums u.ho).toList == []) = true := HEH.out.trans hE
            by_cases p0 : u.po = 0
            · have d0 : (u.po == 0) = true := by simp [p0]
              by_cases p1 : u.hs.length = 0
              · have d1 : ((u.hs.length : Int) == 0) = true := by simp [p1]
                have FQ := kd (show FineOf u (dialedL u.us) [] by rw [hE, decide_eq_true p0, decide_eq_true p1] at FI; simpa using FI)
                clear FI p0 p1 hE
                go_wp2_with fail
                refine (DU.out _).mono ?_
                rintro _ _ ⟨rfl, rfl⟩
                go_wp2_with fail
                go_meet
                exact ⟨dialedL u.us, [], rfl, FQ, ST⟩
              · have d1 : ((u.hs.length : Int) == 0) = false := by simpa using p1
                have FQ := kd (show FineOf u false [] by rw [decide_eq_false p1] at FI; simpa using FI)
                clear FI p0 p1 hE
                go_wp2_with fail
                go_meet
                exact ⟨false, [], rfl, FQ, ST⟩
            · have d0 : (u.po == 0) = false := by simpa using p0
              have FQ := kd (show FineOf u false [] by rw [decide_eq_false p0] at FI; simpa using FI)
              clear FI p0 hE
              go_wp2_with fail
              go_meet
              exact ⟨false, [], rfl, FQ, ST⟩
        · have q3 : ((strOfNums sc).toList == [116, 101, 108]) = false := HQ3.out.trans (by simpa using fun e => htel e.symm)
          have FQ := kd (fine_no (u := u) hns (by rw [ESC.out]; exact htel))
          clear htel hns
          go_wp2_with fail
          go_meet
          exact ⟨false, [], rfl, FQ, ST⟩
  case rest =>
  first | (rename_i KK hKK; obtain ⟨fn, ho, rfl, FO, M⟩ := hcut; refine hKK _ _ ?_; clear hKK KK) | obtain ⟨fn, ho, rfl, FO, M⟩ := hcut
  clear ST HO CU DU HQ1 HQ2 HQ3 HEH EH c0 HG HP
  have FO2 := kd (show normL u = match fldsL u.ps 1, fldsL u.hs 2 with
    | some ps, some hs => if fn = true then some ⟨sc, u.us, ho, u.po, ps, hs⟩ else none
    | _, _ => none by rw [← ESC.out]; exact FO.out)
  clear FO ESC
  have F1b := kd (F1.out wc (M.out.fact (i := 1) rfl))
  have k4 := (M.out.row (i := 2) rfl).cell 4
  simp only [List.getElem?_cons_succ, List.getElem?_cons_zero] at k4
  generalize fldsL u.ps 1 = R1 at *
  generalize fldsL u.hs 2 = R2 at *
  go_wp2_with fail
  refine F1b.out.mono ?_
  clear F1 F1b
  intro e5 w5 hF5
  have hb5 : Below wc.heap.size wc w5 := by
    cases R1 with
    | none => exact hF5.2
    | some m => obtain ⟨_, _, h⟩ := hF5; exact h.bw
  have M5 := kd (M.out.call hb5)
  have HB5 := kd hb5
  have F2b := kd (F2.out w5 (M5.out.fact (i := 0) rfl))
  have k5 := (M5.out.row (i := 2) rfl).cell 5
  simp only [List.getElem?_cons_succ, List.getElem?_cons_zero] at k5
  clear F2 k4 hb5
  cases R1 with
  | none =>
    obtain ⟨rfl, _⟩ := hF5
    clear HB5
    replace M := M5
    clear M5
    replace FO2 := kd (show normL u = none by rw [FO2.out])
    go_wp2_with fail
    refine F2b.out.mono ?_
    intro e6 w6 hF6
    cases R2 with
    | none =>
      obtain ⟨rfl, hb6⟩ := hF6
      replace M := kd (M.out.call hb6)
      clear F2b k5 hb6
      cases fn
      all_goals
        have E := kd (show normL u = none by rw [FO2.out])
        have RR := kd (M.out.row (i := 1) rfl)
        have MB := kd M.out.bw
        have GE2 := kd (M.out.ge (i := 1) rfl)
        clear FO2
        go_wp2_with (with_reducible refine wpList_storeG rfl 32 (.tmp 2) (.tmp 89) rfl RR.out [.string ⟨#[]⟩, .string ⟨#[]⟩, .string ⟨#[]⟩, .int .i64 0, .slice none 0 0, .slice none 0 0] rfl rfl (lenU _ _ _ _ _ _ _ _ _ _ _ _) (sizeU _ _ _ _ _ _) (u_one _ _ _ _) ?_)
        intro w9 R9 G9
        have BW9 := kd (MB.out.grown G9.out MB.out.size (fun k hk => by cases hk; exact GE2.out))
        go_wp2_with fail
        exact bodyPost_ret (results_ct rfl _ _ _ b2 [.string ⟨#[]⟩, .string ⟨#[]⟩, .string ⟨#[]⟩, .int .i64 0, .slice none 0 0, .slice none 0 0] _ rfl R9.out.range Tryz.underlying32 rfl (sizeU _ _ _ _ _ _)) rfl (by exact BAD.out _ E.out BW9.out)

    | some m2 =>
      obtain ⟨v6, rfl, hx6⟩ := hF6
      replace M := kd (M.out.call hx6.bw)
      clear F2b k5 hx6
      cases fn
      all_goals
        have E := kd (show normL u = none by rw [FO2.out])
        have RR := kd (M.out.row (i := 1) rfl)
        have MB := kd M.out.bw
        have GE2 := kd (M.out.ge (i := 1) rfl)
        clear FO2
        go_wp2_with (with_reducible refine wpList_storeG rfl 32 (.tmp 2) (.tmp 89) rfl RR.out [.string ⟨#[]⟩, .string ⟨#[]⟩, .string ⟨#[]⟩, .int .i64 0, .slice none 0 0, .slice none 0 0] rfl rfl (lenU _ _ _ _ _ _ _ _ _ _ _ _) (sizeU _ _ _ _ _ _) (u_one _ _ _ _) ?_)
        intro w9 R9 G9
        have BW9 := kd (MB.out.grown G9.out MB.out.size (fun k hk => by cases hk; exact GE2.out))
        go_wp2_with fail
        exact bodyPost_ret (results_ct rfl _ _ _ b2 [.string ⟨#[]⟩, .string ⟨#[]⟩, .string ⟨#[]⟩, .int .i64 0, .slice none 0 0, .slice none 0 0] _ rfl R9.out.range Tryz.underlying32 rfl (sizeU _ _ _ _ _ _)) rfl (by exact BAD.out _ E.out BW9.out)

  | some m1 =>
    obtain ⟨v5, rfl, hx5⟩ := hF5
    have X5 := kd (hx5.base M.out.bw)
    clear hx5 HB5
    replace M := M5
    clear M5
    go_wp2_with fail
    refine F2b.out.mono ?_
    intro e6 w6 hF6
    cases R2 with
    | none =>
      obtain ⟨rfl, hb6⟩ := hF6
      replace M := kd (M.out.call hb6)
      replace FO2 := kd (show normL u = none by rw [FO2.out])
      clear F2b k5 hb6 X5
      cases fn
      all_goals
        have E := kd (show normL u = none by rw [FO2.out])
        have RR := kd (M.out.row (i := 1) rfl)
        have MB := kd M.out.bw
        have GE2 := kd (M.out.ge (i := 1) rfl)
        clear FO2
        go_wp2_with (with_reducible refine wpList_storeG rfl 32 (.tmp 2) (.tmp 89) rfl RR.out [.string ⟨#[]⟩, .string ⟨#[]⟩, .string ⟨#[]⟩, .int .i64 0, .slice none 0 0, .slice none 0 0] rfl rfl (lenU _ _ _ _ _ _ _ _ _ _ _ _) (sizeU _ _ _ _ _ _) (u_one _ _ _ _) ?_)
        intro w9 R9 G9
        have BW9 := kd (MB.out.grown G9.out MB.out.size (fun k hk => by cases hk; exact GE2.out))
        go_wp2_with fail
        exact bodyPost_ret (results_ct rfl _ _ _ b2 [.string ⟨#[]⟩, .string ⟨#[]⟩, .string ⟨#[]⟩, .int .i64 0, .slice none 0 0, .slice none 0 0] _ rfl R9.out.range Tryz.underlying32 rfl (sizeU _ _ _ _ _ _)) rfl (by exact BAD.out _ E.out BW9.out)

    | some m2 =>
      obtain ⟨v6, rfl, hx6⟩ := hF6
      have X6 := kd (hx6.base M.out.bw)
      replace X5 := kd (X5.out.step hx6.bw)
      replace M := kd (M.out.call hx6.bw)
      clear F2b k5 hx6
      cases fn with
      | false =>
        replace FO2 := kd (show normL u = none by rw [FO2.out]; rfl)
        clear X5 X6
        have E := kd (show normL u = none by rw [FO2.out])
        have RR := kd (M.out.row (i := 1) rfl)
        have MB := kd M.out.bw
        have GE2 := kd (M.out.ge (i := 1) rfl)
        clear FO2
        go_wp2_with (with_reducible refine wpList_storeG rfl 32 (.tmp 2) (.tmp 89) rfl RR.out [.string ⟨#[]⟩, .string ⟨#[]⟩, .string ⟨#[]⟩, .int .i64 0, .slice none 0 0, .slice none 0 0] rfl rfl (lenU _ _ _ _ _ _ _ _ _ _ _ _) (sizeU _ _ _ _ _ _) (u_one _ _ _ _) ?_)
        intro w9 R9 G9
        have BW9 := kd (MB.out.grown G9.out MB.out.size (fun k hk => by cases hk; exact GE2.out))
        go_wp2_with fail
        exact bodyPost_ret (results_ct rfl _ _ _ b2 [.string ⟨#[]⟩, .string ⟨#[]⟩, .string ⟨#[]⟩, .int .i64 0, .slice none 0 0, .slice none 0 0] _ rfl R9.out.range Tryz.underlying32 rfl (sizeU _ _ _ _ _ _)) rfl (by exact BAD.out _ E.out BW9.out)

      | true =>
        obtain ⟨_, A5, c5, hv5, _⟩ := X5.out.whole
        subst hv5
        obtain ⟨_, A6, c6, hv6, _⟩ := X6.out.whole
        subst hv6
        replace FO2 := kd (show normL u = some ⟨sc, u.us, ho, u.po, m1, m2⟩ by rw [FO2.out]; rfl)
        have k4 := (M.out.row (i := 0) rfl).cell 4
        have f4 := (M.out.row (i := 0) rfl).frozen 4
        have k5 := ((M.out.row (i := 0) rfl).set 4 (.slice A5 m1.length c5)).cell 5
        have f5 := ((M.out.row (i := 0) rfl).set 4 (.slice A5 m1.length c5)).frozen 5
        simp only [List.getElem?_cons_succ, List.getElem?_cons_zero, List.set_cons_succ, List.set_cons_zero] at k4 k5
        go_upto_region 15 with (fail)
        have RB := kd (M.out.row (i := 0) rfl)
        have GB := kd (M.out.ge (i := 0) rfl)
        have Y5 := kd (vx_set2 (u4 := .slice A5 m1.length c5) (u5 := .slice A6 m2.length c6) X5.out RB.out GB.out)
        have Y6 := kd (vx_set2 (u4 := .slice A5 m1.length c5) (u5 := .slice A6 m2.length c6) X6.out RB.out GB.out)
        replace M := kd (show Mine w _ [(b, 32, [.string (strOfNums sc), .string (strOfNums u.us), .string (strOfNums ho), .int .i64 u.po, .slice A5 m1.length c5, .slice A6 m2.length c6]), (b2, 32, [.string ⟨#[]⟩, .string ⟨#[]⟩, .string ⟨#[]⟩, .int .i64 0, .slice none 0 0, .slice none 0 0]), (b1, 32, [.string (strOfNums u.sc), .string (strOfNums u.us), .string (strOfNums u.ho), .int .i64 u.po, .slice A1 u.ps.length c1, .slice A2 u.hs.length c2])] [(fun W => Rds W W.heap.size A2 (pms u.hs)), (fun W => Rds W W.heap.size A1 (pms u.ps))] from (M.out.setCell (i := 0) (off := 4) (.slice A5 m1.length c5) rfl rfl).setCell (i := 0) (off := 5) (.slice A6 m2.length c6) rfl rfl)
        clear k4 f4 k5 f5 X5 X6 RB GB
        generalize (w6.setCell ⟨b, 4, none⟩ (.slice A5 m1.length c5)).setCell ⟨b, 5, none⟩ (.slice A6 m2.length c6) = w7 at *
        have RU := kd (M.out.row (i := 0) rfl)
        have RR := kd (M.out.row (i := 1) rfl)
        have GE2 := kd (M.out.ge (i := 1) rfl)
        go_wp2_with (first
          | (with_reducible refine wpList_loadR rfl 32 (.tmp 4) rfl RU.out rfl Tryz.underlying32 rfl (sizeU _ _ _ _ _ _) ?_)
          | (with_reducible refine wpList_storeG rfl 32 (.tmp 2) (.tmp 94) rfl RR.out [.string (strOfNums sc), .string (strOfNums u.us), .string (strOfNums ho), .int .i64 u.po, .slice A5 m1.length c5, .slice A6 m2.length c6] rfl rfl (lenU _ _ _ _ _ _ _ _ _ _ _ _) (sizeU _ _ _ _ _ _) (u_one _ _ _ _) ?_))
        intro w9 R9 G9
        have Z5 := kd (vx_grown Y5.out RR.out GE2.out G9.out)
        have Z6 := kd (vx_grown Y6.out RR.out GE2.out G9.out)
        go_wp2_with fail
        exact bodyPost_ret (results_ct rfl _ _ _ b2 [.string (strOfNums sc), .string (strOfNums u.us), .string (strOfNums ho), .int .i64 u.po, .slice A5 m1.length c5, .slice A6 m2.length c6] _ rfl R9.out.range Tryz.underlying32 rfl (sizeU _ _ _ _ _ _)) rfl (by exact GOOD.out _ _ _ _ _ _ _ _ _ FO2.out Z5.out Z6.out)
end Go.Proofs.YthfonniieaiocaaGreatDoor
