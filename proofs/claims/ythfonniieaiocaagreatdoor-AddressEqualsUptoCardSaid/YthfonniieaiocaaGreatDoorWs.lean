/- Contract: the law's turned. The law AddressEquals. -/
import Derived.Test.YthfonniieaiocaaGreatDoorYd
import Derived.BigQuiet
set_option linter.unusedVariables false
set_option linter.unusedSimpArgs false
namespace Go.Proofs.YthfonniieaiocaaGreatDoor
open Go.RowKit
section
variable {P : Program}
/-- A load of a row that was there. -/
theorem quiet_load {o : Oper} {a : Act} {w : World} {K : Act → Prop} (ty : TypeId) (x : Operand) (ho : o.op = .load ty x) (b : Nat) (hx : a.eval x = .pointer (some ⟨b, 0, none⟩)) (cs : List Value) (T : TypeId) (d : TypeDesc) (hr : Row w b T cs)
    (hu : P.underlying ty = some d) (hd : d.isRow = true) (hi : (P.info? ty).map (·.size) = some cs.length) (h : K (a.put o.dst (.agg cs.toArray))) : o.quiet P a (fun w' => ∃ y : BW w, w' = y.w) K :=
  ⟨.agg cs.toArray, fun w' ⟨y, hy⟩ => by
    subst hy
    unfold Oper.quietAt execOp
    simp only [ho, hx, Instr.loadAt, Instr.sureAddr, Sem.run_bind, Sem.run_pure, Result.andThen_ok, run_loadVar_mid y.w b 0 ty cs d (hr.below y.h).range hu hd hi]
    exact ⟨rfl, rfl⟩, h⟩
end
section
variable {w : World} {L : List Blk}
theorem stab_row {b : Nat} {T : TypeId} {vs : List Value} (h : Row w b T vs) (hn : b ∉ L.map (·.1)) : Stab L w (fun W => Row W b T vs) := fun w' ha => h.heap (ha.block b h.lt hn)
end

def upK (xs : List Int) (k : Nat) : List Int := (xs.take k).map upB ++ xs.drop k
theorem upK_len (xs : List Int) (k : Nat) : (upK xs k).length = xs.length := by
  unfold upK; rw [List.length_append, List.length_map, List.length_take, List.length_drop]; omega
theorem upK_zero (xs : List Int) : upK xs 0 = xs := rfl
theorem upK_all {xs : List Int} {k : Nat} (h : xs.length ≤ k) : upK xs k = xs.map upB := by
  unfold upK; rw [List.take_of_length_le h, List.drop_of_length_le h, List.append_nil]
theorem upK_at {xs : List Int} {k : Nat} (h : k < xs.length) : (upK xs k)[k]? = some (xs.getD k 0) := by
  unfold upK
  rw [List.getElem?_append_right (by rw [List.length_map, List.length_take]; omega), List.length_map, List.length_take, show k - min k xs.length = 0 by omega, drop_consI xs h]
  rfl
theorem upK_set {xs : List Int} {k : Nat} (h : k < xs.length) : (upK xs k).set k (upB (xs.getD k 0)) = upK xs (k + 1) := by
  unfold upK
  rw [List.set_append_right _ _ (by rw [List.length_map, List.length_take]; omega), List.length_map, List.length_take, show k - min k xs.length = 0 by omega, drop_consI xs h, List.set_cons_zero, take_snocI xs h]
  simp
theorem upK_same {xs : List Int} {k : Nat} (h : k < xs.length) (hc : upB (xs.getD k 0) = xs.getD k 0) : upK xs k = upK xs (k + 1) := by
  rw [← upK_set h, hc]
  have h1 := upK_at h
  obtain ⟨h2, h3⟩ := List.getElem?_eq_some_iff.1 h1
  rw [← h3]
  exact (List.set_getElem_self h2).symm
theorem turn_snoc {l : List Pm} {j q : Nat} {p : Pm} (hj : j + (q + 1) = l.length) (hp : l[q]? = some p) : (l.reverse.take (j + 1)).map upPm = (l.reverse.take j).map upPm ++ [upPm p] := by
  have h1 : l.reverse[j]? = some p := by rw [List.getElem?_reverse (by omega), show l.length - 1 - j = q by omega]; exact hp
  rw [List.take_add_one, h1, List.map_append]; rfl
set_option maxRecDepth 100000 in
set_option maxHeartbeats 4000000 in
theorem turned_any (A : Option Addr) (n c : Nat) (l : List Pm) (w : World) (hA : Rds w w.heap.size A (pms l)) (hn : l.length = n) (hN : n ≤ 1000000) (hl : ∀ p ∈ l, pmSz p) :
    Calls Tryz.prog 38 #[.slice A n c] w fun e w' => ∃ v, e = .returned v ∧ VX 56 3 w v (turnPm l).length (pms (turnPm l)) w' := by
  have HA := Lib.hid hA; have HN := Lib.hid hn; have HL := Lib.hid hl
  have ET := Lib.hid (show (l.reverse.take n).map upPm = turnPm l by unfold turnPm; rw [List.take_of_length_le (by rw [List.length_reverse, hn]; exact Nat.le_refl _)])
  generalize turnPm l = TL at *
  clear hA hn hl
  go_enter Tryz.func38, Tryz.ntmps38
  go_wp2_with fail
  go_loopw [3, 4] (fun v3 v4 wr => ∃ (j q : Nat) (z : Int) (m : List Pm) (v : Value), j + q = n ∧ z + 1 = (q : Int) ∧ m.length = j ∧ v3 = v ∧ v4 = .int .i64 z ∧ Hid (m = (l.reverse.take j).map upPm) ∧ Hid (VX 56 3 w v m.length (pms m) wr)) (fun _ v _ => (intOf v + 1).toNat)
  case atStart => exact ⟨0, n, _, [], _, by omega, by omega, rfl, rfl, rfl, Lib.hid rfl, Lib.hid (VX.nil _ _ _)⟩
  case round =>
    obtain ⟨j, q, z, m, v, hj, hz, hm, rfl, rfl, EM, HV⟩ := hrel
    cases q with
    | succ q =>
      obtain rfl : z = (q : Int) := by omega
      have hd : decide ((0 : Int) ≤ (q : Int)) = true := by simp
      obtain ⟨p, hp⟩ : ∃ p, l[q]? = some p := ⟨_, List.getElem?_eq_getElem (by rw [HN.out]; omega)⟩
      have TS := Lib.hid (turn_snoc (by rw [HN.out]; exact hj) hp)
      obtain ⟨x1, o1, rfl, hx1, hc1⟩ := HA.out (by rw [pms_len, HN.out]; omega)
      have G1 := Lib.hid (show wr.rangeAt x1 (o1 + q * 3) (pmC p) from fun i v hv => (HV.out.bw.cell (p := ⟨x1, _, none⟩) hx1).trans (Rds.range2 hc1 (q * 3) _ (pms_at hp) i v hv))
      obtain ⟨pnb, pvb, pnl, pvl⟩ := HL.out p (List.mem_of_getElem? hp)
      have qn : q < n := by omega
      clear hc1 hp
      obtain ⟨pn, pv, ph⟩ := p
      dsimp only at pnb pvb pnl pvl
      have G2 := Lib.hid (show wr.rangeAt x1 (o1 + q * 3) [.string (strOfNums pn), .string (strOfNums pv), .bool ph] from G1.out)
      have RP := Lib.hid (Row.new wr 56 [.string (strOfNums pn), .string (strOfNums pv), .bool ph])
      have V1 := Lib.hid (HV.out.step ((Below.refl _ _).alloc (Nat.le_refl _) (.cells #[.string (strOfNums pn), .string (strOfNums pv), .bool ph] 56)))
      have NE := Lib.hid (VX.own_ne HV.out)
      have GE := Lib.hid (show w.heap.size ≤ wr.heap.size from HV.out.bw.size)
      have EU := Lib.hid (show upPm ⟨pn, pv, ph⟩ = ⟨pn.map upB, pv, ph⟩ from rfl)
      rw [EU.out] at TS
      have YL := Lib.hid (byteL_str pnb)
      have YZ := Lib.hid (num_size pn).symm
      have YB := Lib.hid pnb
      clear G1 pnb pvb pvl HV EU
      have PL4 : (strOfNums pn).size ≤ 4000000 := by rw [num_size]; exact pnl
      clear pnl
      generalize strOfNums pn = s at *
      go_upto_region 6 with (with_reducible refine wpList_load_mid rfl 56 (.tmp 17) rfl x1 (o1 + q * 3) rfl [.string s, .string (strOfNums pv), .bool ph] _ G2.out Tryz.underlying56 rfl (sizePm _ _ _) ?_)
      generalize wr.alloc (.cells #[.string s, .string (strOfNums pv), .bool ph] 56) = w2 at *
      generalize wr.heap.size = pb at *
      have k0 : w2.cell? ⟨pb, 0, none⟩ = some (.string s) := RP.out.cell 0
      clear G2
      go_wp2_with (with_reducible refine wpList_bytesW rfl _ rfl s rfl ?_)
      intro cap w3 hcap BR3 B3
      rw [YL.out] at BR3
      have LTP := Lib.hid RP.out.lt
      have RL := Lib.hid (fun wi (h : Below w2.heap.size w2 wi) => RP.out.below h)
      have VL := Lib.hid (fun wi (h : Below w2.heap.size w2 wi) => V1.out.step h)
      clear k0 RP V1
      generalize w2.heap.size = gb at *
      go_wp2_with fail
      go_loopw [7] (fun v wi => ∃ k : Nat, k ≤ s.size ∧ v = .int .i64 k ∧ Hid (BR wi gb (upK pn k)) ∧ Hid (Below gb w2 wi)) (fun v _ => s.size - (intOf v).toNat)
      case atStart => exact ⟨0, Nat.zero_le _, rfl, Lib.hid BR3.out, B3⟩
      case round =>
        clear BR3 B3
        obtain ⟨k, hk, rfl, HR, HQ⟩ := hrel
        by_cases hlt : k < s.size
        · have hlt' : k < pn.length := by rw [YZ.out]; exact hlt
          have hd3 : decide ((k : Int) < (s.size : Int)) = true := by simp; omega
          have hcell := HR.out.c k _ (upK_at hlt')
          have hfz := HR.out.f k (by rw [upK_len]; exact hlt')
          have hx2 := YB.out _ (getD_mem hlt')
          have LS := Lib.hid (fun hc => upK_same (xs := pn) (k := k) hlt' hc)
          have ST := Lib.hid (fun wi (H : BR wi gb (upK pn k)) => show upB (pn.getD k 0) = pn.getD k 0 - 32 → BR (wi.setCell ⟨gb, k, none⟩ (.int .u8 (pn.getD k 0 - 32))) gb (upK pn (k + 1)) from fun hc => by
            rw [← upK_set hlt', hc]
            exact H.set (by rw [upK_len]; exact hlt') _)
          clear hlt'
          generalize pn.getD k 0 = x at *
          have x0 := hx2.1
          have x1' := hx2.2
          clear hx2
          by_cases hr : 97 ≤ x ∧ x ≤ 122
          · have d1 : decide (97 ≤ x) = true := by simp [hr.1]
            have d2 : decide (x ≤ 122) = true := by simp [hr.2]
            have S1 := Lib.hid (ST.out _ HR.out (if_pos hr))
            have h97 := hr.1
            have h122 := hr.2
            clear hr ST LS
            go_wp2_with fail
            go_roundw
            case rel => exact ⟨k + 1, by omega, by go_num, S1, Lib.hid (HQ.out.setCell (Nat.le_refl _) _)⟩
            case measure => simp [intOf]; omega
          · have E := Lib.hid (LS.out (if_neg hr))
            have d0 : decide (97 ≤ x) = false ∨ (decide (97 ≤ x) = true ∧ decide (x ≤ 122) = false) := by simp; omega
            clear hr ST LS
            rcases d0 with d1 | ⟨d1, d2⟩
            all_goals
              go_wp2_with fail
              go_roundw
              case rel => exact ⟨k + 1, by omega, by go_num, Lib.hid (by rw [← E.out]; exact HR.out), HQ⟩
              case measure => simp [intOf]; omega
        · obtain rfl : k = s.size := by omega
          have hd3 : decide ((s.size : Int) < (s.size : Int)) = false := by simp
          have HR2 := HR.out
          rw [upK_all (by rw [YZ.out]; exact Nat.le_refl _)] at HR2
          have cv := HR2.conv s.size cap (by rw [List.length_map]; exact YZ.out)
          have RP5 := Lib.hid (RL.out _ HQ.out)
          have V5 := Lib.hid (VL.out _ HQ.out)
          have f0 := RP5.out.frozen 0
          have k0 := RP5.out.cell 0
          simp only [List.getElem?_cons_zero] at k0
          obtain ⟨t, ht⟩ : ∃ t, strOfNums (pn.map upB) = t := ⟨_, rfl⟩
          rw [ht] at cv
          have RP6 := Lib.hid (fun u => RP5.out.set 0 u)
          have V6 := Lib.hid (fun u => V5.out.other (V5.out.bw.setCell GE.out u) (fun g hg => Below.heap_setCell _ ⟨pb, 0, none⟩ u g (NE.out g hg)))
          have RP7 := Lib.hid (RP6.out (.string t))
          have V7 := Lib.hid (V6.out (.string t))
          clear HR HR2 HQ RL VL RP5 V5 RP6 V6
          go_upto_region 13 with (fail)
          clear k0 f0
          generalize wr.setCell ⟨pb, 0, none⟩ (.string t) = w4 at *
          have RP8 := Lib.hid (show Row w4 pb 56 [.string t, .string (strOfNums pv), .bool ph] from RP7.out)
          clear RP7 cv
          subst ht
          go_wp2_with (first
            | (with_reducible refine wpList_loadR rfl 56 (.tmp 5) rfl RP8.out rfl Tryz.underlying56 rfl (sizePm _ _ _) ?_)
            | (with_reducible refine wpList_pushF rfl (.tmp 51) (.tmp 53) rfl rfl V7.out ⟨pn.map upB, pv, ph⟩ rfl (by omega) ?_))
          intro v9 w9 V9
          go_wp2_with fail
          go_roundw
          case rel => exact ⟨j + 1, q, (q : Int) - 1, m ++ [(⟨pn.map upB, pv, ph⟩ : Pm)], _, by omega, by omega, by rw [List.length_append, List.length_singleton]; omega, rfl, by go_num, Lib.hid (by rw [TS.out, EM.out]), Lib.hid (by rw [List.length_append, List.length_singleton, hm]; exact V9.out)⟩
          case measure => simp [intOf]
    | zero =>
      obtain rfl : z = -1 := by omega
      have EM2 := Lib.hid (show m = TL by rw [EM.out, show j = n by omega]; exact ET.out)
      go_wp2_with fail
      go_ret
      exact ⟨_, rfl, by rw [← EM2.out]; exact HV.out⟩
theorem VX.zero (w : World) : VX 56 3 w (.slice (some ⟨w.heap.size, 0, none⟩) 0 0) 0 [] (w.alloc (.cells #[] 56)) :=
  ⟨⟨rfl, .inr ⟨w.heap.size, 0, #[], rfl, Nat.le_refl _, heap_alloc_new w _, Nat.le_refl _, Nat.zero_le _, rfl, rfl⟩⟩, (Below.refl _ _).alloc (Nat.le_refl _) _⟩
/-- 'append(s, l...)' where l is empty. -/
theorem wpList_append0 {w : World} {ops : Array Oper} {rest : List Oper} {o : Oper} {a : Act} {Q : Exit → Act → World → Prop} (hgd : o.guard = none) (s x : Operand)
    (ho : o.op = .call { callee := .builtin .append, args := #[s, x], argTypes := #[30, 30] }) (g : Nat) (hs : a.eval s = .slice (some ⟨g, 0, none⟩) 0 0) (A : Option Addr) (c : Nat) (hx : a.eval x = .slice A 0 c)
    (h : wpList Tryz.prog ops Q rest (a.put o.dst (.slice (some ⟨g, 0, none⟩) 0 0)) w) : wpList Tryz.prog ops Q (o :: rest) a w := by
  obtain ⟨i, hi, hz, hsz, hbt⟩ := infoPm
  refine wpList_value hgd _ w ?_ h
  unfold execOp
  cases A with
  | none => simp [ho, resolve, invoke, builtin, hs, hx, Builtin.append_, run_underlying Tryz.underlying30, sizeOf, typeInfo, hi, Builtin.lenOf, Builtin.firstCells, loadCells, loadCellsFrom, Sem.run_bind, Result.andThen_ok]; rfl
  | some b => simp [ho, resolve, invoke, builtin, hs, hx, Builtin.append_, run_underlying Tryz.underlying30, sizeOf, typeInfo, hi, Builtin.lenOf, Builtin.firstCells, loadCells, loadCellsFrom, Sem.run_bind, Result.andThen_ok]; rfl
/-- 'append([]api.Param{}, l...)'. -/
theorem wpList_copyPm {w wr : World} {ops : Array Oper} {rest : List Oper} {o : Oper} {a : Act} {Q : Exit → Act → World → Prop} (hgd : o.guard = none) (s x : Operand)
    (ho : o.op = .call { callee := .builtin .append, args := #[s, x], argTypes := #[30, 30] }) (g : Nat) (hs : a.eval s = .slice (some ⟨g, 0, none⟩) 0 0) (H : VX 56 3 w (.slice (some ⟨g, 0, none⟩) 0 0) 0 [] wr)
    (l : List Pm) (A : Option Addr) (c : Nat) (hx : a.eval x = .slice A l.length c) (hR : Rds wr wr.heap.size A (pms l)) (hb : l.length ≤ 16000000)
    (h : ∀ v' w', Hid (VX 56 3 w v' l.length (pms l) w') → wpList Tryz.prog ops Q rest (a.put o.dst v') w') : wpList Tryz.prog ops Q (o :: rest) a wr := by
  obtain ⟨i, hi, hz, hsz, hbt⟩ := infoPm
  by_cases h0 : l = []
  · subst h0
    exact wpList_append0 hgd s x ho g hs A c hx (h _ _ (Lib.hid H))
  · have hpos : 0 < (pms l).length := by
      rw [pms_len]
      cases l with
      | nil => exact absurd rfl h0
      | cons p r => rw [List.length_cons]; omega
    obtain ⟨b, o', rfl, _, hc⟩ := hR hpos
    refine wpList_append_own _ hgd s x 30 ho w.heap.size 56 i _ 3 40 Tryz.underlying30 hi hz hsz hbt rfl (by omega) _ 0 [] hs H.o ⟨b, o', none⟩ l.length c (pms l) hx (pms_len l) (fun j u hu => ?_) (pms_one l) (by unfold maxLen; omega) (by omega) H.bw.size ?_
    · rw [Addr.add_mid]; exact hc j u hu
    · intro v' w' h2 h3 _
      refine h v' w' (Lib.hid ⟨?_, H.bw.grown h3 H.bw.size (own_block H.o)⟩)
      rw [List.nil_append, Nat.zero_add] at h2
      exact h2
end Go.Proofs.YthfonniieaiocaaGreatDoor
namespace Go.Proofs.YthfonniieaiocaaGreatDoor
open Go.RowKit

theorem agree_nil {w w' : World} (h : Agree [] w w') : Below w.heap.size w w' := ⟨h.os, h.tape, h.output, h.size, fun k hk => h.block k hk (by simp)⟩
theorem stab_nil {w : World} {F : World → Prop} (h : ∀ w', Below w.heap.size w w' → F w') : Stab [] w F := fun w' ha => h w' (agree_nil ha)
theorem uarg_nil {w : World} {u : Uri} {A1 A2 : Option Addr} (h : UArg w u A1 A2) : Stab [] w (fun W => UArg W u A1 A2) := stab_nil fun _ hb => h.step hb
/-- A slice that a call made, whatever is stored into the rows that lay before. -/
theorem vx_stab {w w' : World} {v : Value} {n : Nat} {cs : List Value} {L : List Blk} (X : VX 56 3 w v n cs w') (hL : ∀ k ∈ L.map (·.1), k < w.heap.size) : ∃ A c, v = .slice A n c ∧ Stab L w' (fun W => Rds W W.heap.size A cs) := by
  rcases X.form with ⟨h1, h2, h3⟩ | ⟨g, cap, h1, _, h3, h4, h5⟩
  · exact ⟨none, 0, by rw [h1, h2], fun W _ hn => by rw [h3] at hn; simp at hn⟩
  · refine ⟨some ⟨g, 0, none⟩, cap, h1, stab_rds (fun _ => ⟨g, 0, rfl, h4, fun j u hu => by rw [Nat.zero_add]; exact h5 j u hu⟩) fun b o s e hm => ?_⟩
    injection e with e
    injection e with e
    subst e
    have := hL _ hm
    omega
theorem three_mine (w : World) (T1 T2 T3 : TypeId) (xs ys zs : List Value) : Mine w (((w.alloc (.cells xs.toArray T1)).alloc (.cells ys.toArray T2)).alloc (.cells zs.toArray T3)) [] [(fun W => Row W (w.heap.size + 1 + 1) T3 zs), (fun W => Row W (w.heap.size + 1) T2 ys), (fun W => Row W w.heap.size T1 xs)] := by
  have h1 := ((Mine.refl w).alloc T1 xs).rest
  have h2 := (h1.alloc T2 ys).rest
  have h3 := (h2.alloc T3 zs).rest
  simp only [World.size_alloc] at h2 h3
  exact h3
/-- The address with parameters in the opposite order. -/
def turnU (n : Uri) (us : List Int) : Uri := { n with us := us, ps := turnPm n.ps, hs := turnPm n.hs }
theorem turnPm_len (l : List Pm) : (turnPm l).length = l.length := by unfold turnPm; rw [List.length_map, List.length_reverse]
theorem upPm_sz {p : Pm} (h : pmSz p) : pmSz (upPm p) := ⟨fun x hx => by
  obtain ⟨c, hc, rfl⟩ := List.mem_map.1 hx
  exact upB_by (h.1 c hc), h.2.1, by show (p.n.map upB).length ≤ _; rw [List.length_map]; exact h.2.2.1, h.2.2.2⟩
theorem turnPm_sz {l : List Pm} (h : ∀ p ∈ l, pmSz p) : ∀ p ∈ turnPm l, pmSz p := fun p hp => by
  unfold turnPm at hp
  obtain ⟨q, hq, rfl⟩ := List.mem_map.1 hp
  exact upPm_sz (h q (List.mem_reverse.1 hq))
theorem uarg_turn {w : World} {n : Uri} {N1 N2 T1 T2 : Option Addr} {us : List Int} (H : UArg w n N1 N2) (hu : By us) (hl : us.length ≤ 4000000) (r1 : Rds w w.heap.size T1 (pms (turnPm n.ps))) (r2 : Rds w w.heap.size T2 (pms (turnPm n.hs))) : UArg w (turnU n us) T1 T2 :=
  ⟨⟨H.by_.sc, hu, H.by_.ho, fun p hp => ⟨(turnPm_sz H.s1 p hp).1, (turnPm_sz H.s1 p hp).2.1⟩, fun p hp => ⟨(turnPm_sz H.s2 p hp).1, (turnPm_sz H.s2 p hp).2.1⟩⟩, H.n1, hl, H.n3, turnPm_sz H.s1, turnPm_sz H.s2, r1, r2, by show (turnPm n.ps).length ≤ _; rw [turnPm_len]; exact H.l1, by show (turnPm n.hs).length ≤ _; rw [turnPm_len]; exact H.l2⟩
def ZZ : Pm := ⟨[122, 122, 122, 32, 122, 122, 122], [], false⟩
def moreU (n : Uri) : Uri := { n with ps := n.ps ++ [ZZ] }
theorem uarg_more {w : World} {n : Uri} {N1 N2 T1 : Option Addr} (H : UArg w n N1 N2) (hl : n.ps.length ≤ 15000000) (r1 : Rds w w.heap.size T1 (pms (n.ps ++ [ZZ]))) : UArg w (moreU n) T1 N2 := by
  have hz : pmSz ZZ := ⟨byD rfl, byD rfl, by decide, by decide⟩
  have hs : ∀ p ∈ n.ps ++ [ZZ], pmSz p := fun p hp => by
    rcases List.mem_append.1 hp with hp | hp
    · exact H.s1 p hp
    · rw [List.mem_singleton] at hp; subst hp; exact hz
  exact ⟨⟨H.by_.sc, H.by_.us, H.by_.ho, fun p hp => ⟨(hs p hp).1, (hs p hp).2.1⟩, H.by_.hs⟩, H.n1, H.n2, H.n3, hs, H.s2, r1, H.r2, by show (n.ps ++ [ZZ]).length ≤ _; rw [List.length_append, List.length_singleton]; omega, H.l2⟩
theorem wpList_pushZ {w wr : World} {l : List Pm} {v : Value} {ops : Array Oper} {rest : List Oper} {o : Oper} {a : Act} {Q : Exit → Act → World → Prop} (hgd : o.guard = none) (x y : Operand)
    (ho : o.op = .call { callee := .builtin .append, args := #[x, y], argTypes := #[30, 30] }) (hs : a.eval x = v) (H : VX 56 3 w v l.length (pms l) wr) (hy : a.eval y = .slice (some ⟨wr.heap.size, 0, none⟩) 1 1) (hb : l.length + 1 ≤ 16777216)
    (h : ∀ v' w', Hid (VX 56 3 w v' (l ++ [ZZ]).length (pms (l ++ [ZZ])) w') → wpList Tryz.prog ops Q rest (a.put o.dst v') w') : wpList Tryz.prog ops Q (o :: rest) a (wr.alloc (.cells #[.string ⟨#[122, 122, 122, 32, 122, 122, 122]⟩, .string ⟨#[]⟩, .bool false] 56)) :=
  wpList_pushF hgd x y ho hs H ZZ hy hb h
set_option maxRecDepth 100000 in
set_option maxHeartbeats 8000000 in
theorem equals_any (u v x : Uri) (A1 A2 B1 B2 C1 C2 : Option Addr) (c1 c2 d1 d2 e1 e2 : Nat) (w : World) (HU : UArg w u A1 A2) (HV : UArg w v B1 B2) (HX : UArg w x C1 C2) (hus : u.us.length ≤ 3000000) (hC : CLS w) (hG : GM w) (hP : PT w) :
    Calls Tryz.prog 11 #[uS u A1 A2 c1 c2, uS v B1 B2 d1 d2, uS x C1 C2 e1 e2] w fun e w' => e = .returned (.bool true) ∧ Below w.heap.size w w' := by
  have HG := Lib.hid (fun w' (h : Below w.heap.size w w') => hG.below h)
  have HP := Lib.hid (fun w' (h : Below w.heap.size w w') => hP.below h)
  have AW := Lib.hid (fun w' (h : Below w.heap.size w w') => awake_any w' (hC.below h) (hG.below h) (hP.below h))
  have UB := Lib.hid HU.by_
  have N1 := HU.l1; have N2 := HU.l2; have N3 := HV.l1; have N4 := HV.l2; have N5 := HX.l1; have N6 := HX.l2
  have EQ := Lib.hid (fun (p q : Uri) (P1 P2 Q1 Q2 : Option Addr) (m1 m2 l1 l2 : Nat) (b : Bool) (h : eqU p q = b) w' (hb : Below w.heap.size w w') (H : UArg w' p P1 P2) (H2 : UArg w' q Q1 Q2) => equal_is h P1 P2 Q1 Q2 m1 m2 l1 l2 w' H H2 (hG.below hb) (hP.below hb))
  have ST := Lib.hid (three_mine w 32 32 32 [.string (strOfNums u.sc), .string (strOfNums u.us), .string (strOfNums u.ho), .int .i64 u.po, .slice A1 u.ps.length c1, .slice A2 u.hs.length c2] [.string (strOfNums v.sc), .string (strOfNums v.us), .string (strOfNums v.ho), .int .i64 v.po, .slice B1 v.ps.length d1, .slice B2 v.hs.length d2] [.string (strOfNums x.sc), .string (strOfNums x.us), .string (strOfNums x.ho), .int .i64 x.po, .slice C1 x.ps.length e1, .slice C2 x.hs.length e2])
  replace ST := Lib.hid (((ST.out.add (uarg_nil (HU.step ST.out.bw))).add (uarg_nil (HV.step ST.out.bw))).add (uarg_nil (HX.step ST.out.bw)))
  clear hC hG hP HU HV HX
  unfold uS
  go_enter Tryz.func11, Tryz.ntmps11
  go_upto_region 1 with (fail)
  generalize ((w.alloc (.cells #[.string (strOfNums u.sc), .string (strOfNums u.us), .string (strOfNums u.ho), .int .i64 u.po, .slice A1 u.ps.length c1, .slice A2 u.hs.length c2] 32)).alloc (.cells #[.string (strOfNums v.sc), .string (strOfNums v.us), .string (strOfNums v.ho), .int .i64 v.po, .slice B1 v.ps.length d1, .slice B2 v.hs.length d2] 32)).alloc (.cells #[.string (strOfNums x.sc), .string (strOfNums x.us), .string (strOfNums x.ho), .int .i64 x.po, .slice C1 x.ps.length e1, .slice C2 x.hs.length e2] 32) = w1 at *
  have ST := Lib.hid (show ∃ g1 g2 g3 : Nat, g1 = w.heap.size ∧ g2 = w.heap.size + 1 ∧ g3 = w.heap.size + 1 + 1 ∧ Mine w w1 [] [(fun W => UArg W x C1 C2), (fun W => UArg W v B1 B2), (fun W => UArg W u A1 A2), (fun W => Row W g3 32 [.string (strOfNums x.sc), .string (strOfNums x.us), .string (strOfNums x.ho), .int .i64 x.po, .slice C1 x.ps.length e1, .slice C2 x.hs.length e2]), (fun W => Row W g2 32 [.string (strOfNums v.sc), .string (strOfNums v.us), .string (strOfNums v.ho), .int .i64 v.po, .slice B1 v.ps.length d1, .slice B2 v.hs.length d2]), (fun W => Row W g1 32 [.string (strOfNums u.sc), .string (strOfNums u.us), .string (strOfNums u.ho), .int .i64 u.po, .slice A1 u.ps.length c1, .slice A2 u.hs.length c2])] from ⟨_, _, _, rfl, rfl, rfl, ST.out⟩)
  obtain ⟨g1, g2, g3, hg1, hg2, hg3, st⟩ := ST.out
  have ST := Lib.hid st
  rw [← hg3, ← hg2, ← hg1]
  clear st hg1 hg2 hg3
  have RU := Lib.hid (ST.out.fact (i := 5) rfl); have RV := Lib.hid (ST.out.fact (i := 4) rfl); have RX := Lib.hid (ST.out.fact (i := 3) rfl)
  have k4 : w1.cell? ⟨g1, 4, none⟩ = some (.slice A1 u.ps.length c1) := RU.out.cell 4
  have k5 : w1.cell? ⟨g1, 5, none⟩ = some (.slice A2 u.hs.length c2) := RU.out.cell 5
  have m4 : w1.cell? ⟨g2, 4, none⟩ = some (.slice B1 v.ps.length d1) := RV.out.cell 4
  have m5 : w1.cell? ⟨g2, 5, none⟩ = some (.slice B2 v.hs.length d2) := RV.out.cell 5
  have q4 : w1.cell? ⟨g3, 4, none⟩ = some (.slice C1 x.ps.length e1) := RX.out.cell 4
  have q5 : w1.cell? ⟨g3, 5, none⟩ = some (.slice C2 x.hs.length e2) := RX.out.cell 5
  by_cases h40 : 40 < u.ps.length + u.hs.length + v.ps.length + v.hs.length + x.ps.length + x.hs.length
  · have d40' : (40 : Int) < (u.ps.length : Int) + (u.hs.length : Int) + (v.ps.length : Int) + (v.hs.length : Int) + (x.ps.length : Int) + (x.hs.length : Int) := by omega
    go_wp2_with fail
    refine (AW.out _ (ST.out.bw)).mono ?_
    rintro _ wz ⟨rfl, hbz⟩
    have BZ := Lib.hid (bthen ST.out.bw hbz)
    go_wp2_with fail
    go_ret
    exact ⟨rfl, BZ.out⟩
  have d40' : ¬ (40 : Int) < (u.ps.length : Int) + (u.hs.length : Int) + (v.ps.length : Int) + (v.hs.length : Int) + (x.ps.length : Int) + (x.hs.length : Int) := by omega
  have P16 : u.ps.length ≤ 40 ∧ u.hs.length ≤ 40 := by omega
  go_upto_region 3 with (fail)
  clear h40 d40' k4 k5 m4 m5 q4 q5
  have E1 : ∃ b, eqU u v = b := ⟨_, rfl⟩
  obtain ⟨b, hb⟩ := E1
  have E1 := Lib.hid hb
  have E2 := Lib.hid (show eqU v u = b by rw [eqU_symm]; exact hb)
  have EB := Lib.hid (fun h : normL u = none => show b = false by rw [← hb]; exact eqU_none v h)
  clear hb
  go_cut [58] (fun v wx => v = .bool false ∧ Hid (Below w1.heap.size w1 wx))
  case first =>
    cases b with
    | false =>
      refine region_bw (by kernel_rfl) (by kernel_rfl) ?_
      go_big_quiet_want
      refine quiet_load 32 (.tmp 3) rfl _ rfl _ 32 _ RU.out Tryz.underlying32 rfl (sizeU _ _ _ _ _ _) ?_
      simp only [Act.put, List.setIfInBounds_toArray, List.set_cons_zero, List.set_cons_succ]
      go_big_quiet_on
      go_big_quiet_want
      refine quiet_load 32 (.tmp 4) rfl _ rfl _ 32 _ RV.out Tryz.underlying32 rfl (sizeU _ _ _ _ _ _) ?_
      simp only [Act.put, List.setIfInBounds_toArray, List.set_cons_zero, List.set_cons_succ]
      go_big_quiet_on
      go_big_quiet_step (exact calls_bw (EQ.out u v A1 A2 B1 B2 c1 c2 d1 d2 _ E1.out _ (bthen ST.out.bw (BW.h _)) ((ST.out.fact (i := 2) rfl).step (BW.h _)) ((ST.out.fact (i := 1) rfl).step (BW.h _))))
      go_big_quiet_want
      refine quiet_load 32 (.tmp 4) rfl _ rfl _ 32 _ RV.out Tryz.underlying32 rfl (sizeU _ _ _ _ _ _) ?_
      simp only [Act.put, List.setIfInBounds_toArray, List.set_cons_zero, List.set_cons_succ]
      go_big_quiet_on
      go_big_quiet_want
      refine quiet_load 32 (.tmp 3) rfl _ rfl _ 32 _ RU.out Tryz.underlying32 rfl (sizeU _ _ _ _ _ _) ?_
      simp only [Act.put, List.setIfInBounds_toArray, List.set_cons_zero, List.set_cons_succ]
      go_big_quiet_on
      go_big_quiet_step (exact calls_bw (EQ.out v u B1 B2 A1 A2 d1 d2 c1 c2 _ E2.out _ (bthen ST.out.bw (BW.h _)) ((ST.out.fact (i := 1) rfl).step (BW.h _)) ((ST.out.fact (i := 2) rfl).step (BW.h _))))
      iterate 2 go_big_quiet_step (fail)
      go_big_quiet_want
      refine quiet_load 32 (.tmp 3) rfl _ rfl _ 32 _ RU.out Tryz.underlying32 rfl (sizeU _ _ _ _ _ _) ?_
      simp only [Act.put, List.setIfInBounds_toArray, List.set_cons_zero, List.set_cons_succ]
      go_big_quiet_on
      go_big_quiet_want
      refine quiet_load 32 (.tmp 4) rfl _ rfl _ 32 _ RV.out Tryz.underlying32 rfl (sizeU _ _ _ _ _ _) ?_
      simp only [Act.put, List.setIfInBounds_toArray, List.set_cons_zero, List.set_cons_succ]
      go_big_quiet_on
      go_big_quiet_step (exact calls_bw (EQ.out u v A1 A2 B1 B2 c1 c2 d1 d2 _ E1.out _ (bthen ST.out.bw (BW.h _)) ((ST.out.fact (i := 2) rfl).step (BW.h _)) ((ST.out.fact (i := 1) rfl).step (BW.h _))))
      iterate 1 go_big_quiet_step (fail)
      iterate 3 go_big_quiet_step (fail)
      iterate 2 go_big_quiet_step (fail)
      iterate 3 go_big_quiet_step (fail)
      iterate 3 go_big_quiet_step (fail)
      refine wpQuiet_nil ?_
      rintro _ ⟨y, rfl⟩
      go_wp2_with fail
      go_meet
      exact ⟨rfl, Lib.hid y.h⟩
    | true =>
      cases hb2 : eqU v x with
      | false =>
        have E3 := Lib.hid hb2
        clear hb2
        refine region_bw (by kernel_rfl) (by kernel_rfl) ?_
        go_big_quiet_want
        refine quiet_load 32 (.tmp 3) rfl _ rfl _ 32 _ RU.out Tryz.underlying32 rfl (sizeU _ _ _ _ _ _) ?_
        simp only [Act.put, List.setIfInBounds_toArray, List.set_cons_zero, List.set_cons_succ]
        go_big_quiet_on
        go_big_quiet_want
        refine quiet_load 32 (.tmp 4) rfl _ rfl _ 32 _ RV.out Tryz.underlying32 rfl (sizeU _ _ _ _ _ _) ?_
        simp only [Act.put, List.setIfInBounds_toArray, List.set_cons_zero, List.set_cons_succ]
        go_big_quiet_on
        go_big_quiet_step (exact calls_bw (EQ.out u v A1 A2 B1 B2 c1 c2 d1 d2 _ E1.out _ (bthen ST.out.bw (BW.h _)) ((ST.out.fact (i := 2) rfl).step (BW.h _)) ((ST.out.fact (i := 1) rfl).step (BW.h _))))
        go_big_quiet_want
        refine quiet_load 32 (.tmp 4) rfl _ rfl _ 32 _ RV.out Tryz.underlying32 rfl (sizeU _ _ _ _ _ _) ?_
        simp only [Act.put, List.setIfInBounds_toArray, List.set_cons_zero, List.set_cons_succ]
        go_big_quiet_on
        go_big_quiet_want
        refine quiet_load 32 (.tmp 3) rfl _ rfl _ 32 _ RU.out Tryz.underlying32 rfl (sizeU _ _ _ _ _ _) ?_
        simp only [Act.put, List.setIfInBounds_toArray, List.set_cons_zero, List.set_cons_succ]
        go_big_quiet_on
        go_big_quiet_step (exact calls_bw (EQ.out v u B1 B2 A1 A2 d1 d2 c1 c2 _ E2.out _ (bthen ST.out.bw (BW.h _)) ((ST.out.fact (i := 1) rfl).step (BW.h _)) ((ST.out.fact (i := 2) rfl).step (BW.h _))))
        iterate 2 go_big_quiet_step (fail)
        go_big_quiet_want
        refine quiet_load 32 (.tmp 3) rfl _ rfl _ 32 _ RU.out Tryz.underlying32 rfl (sizeU _ _ _ _ _ _) ?_
        simp only [Act.put, List.setIfInBounds_toArray, List.set_cons_zero, List.set_cons_succ]
        go_big_quiet_on
        go_big_quiet_want
        refine quiet_load 32 (.tmp 4) rfl _ rfl _ 32 _ RV.out Tryz.underlying32 rfl (sizeU _ _ _ _ _ _) ?_
        simp only [Act.put, List.setIfInBounds_toArray, List.set_cons_zero, List.set_cons_succ]
        go_big_quiet_on
        go_big_quiet_step (exact calls_bw (EQ.out u v A1 A2 B1 B2 c1 c2 d1 d2 _ E1.out _ (bthen ST.out.bw (BW.h _)) ((ST.out.fact (i := 2) rfl).step (BW.h _)) ((ST.out.fact (i := 1) rfl).step (BW.h _))))
        iterate 1 go_big_quiet_step (fail)
        go_big_quiet_want
        refine quiet_load 32 (.tmp 4) rfl _ rfl _ 32 _ RV.out Tryz.underlying32 rfl (sizeU _ _ _ _ _ _) ?_
        simp only [Act.put, List.setIfInBounds_toArray, List.set_cons_zero, List.set_cons_succ]
        go_big_quiet_on
        go_big_quiet_want
        refine quiet_load 32 (.tmp 5) rfl _ rfl _ 32 _ RX.out Tryz.underlying32 rfl (sizeU _ _ _ _ _ _) ?_
        simp only [Act.put, List.setIfInBounds_toArray, List.set_cons_zero, List.set_cons_succ]
        go_big_quiet_on
        go_big_quiet_step (exact calls_bw (EQ.out v x B1 B2 C1 C2 d1 d2 e1 e2 _ E3.out _ (bthen ST.out.bw (BW.h _)) ((ST.out.fact (i := 1) rfl).step (BW.h _)) ((ST.out.fact (i := 0) rfl).step (BW.h _))))
        iterate 2 go_big_quiet_step (fail)
        iterate 3 go_big_quiet_step (fail)
        iterate 3 go_big_quiet_step (fail)
        refine wpQuiet_nil ?_
        rintro _ ⟨y, rfl⟩
        go_wp2_with fail
        go_meet
        exact ⟨rfl, Lib.hid y.h⟩
      | true =>
        have E3 := Lib.hid hb2
        have E4 := Lib.hid (eqU_trans E1.out hb2)
        clear hb2
        refine region_bw (by kernel_rfl) (by kernel_rfl) ?_
        go_big_quiet_want
        refine quiet_load 32 (.tmp 3) rfl _ rfl _ 32 _ RU.out Tryz.underlying32 rfl (sizeU _ _ _ _ _ _) ?_
        simp only [Act.put, List.setIfInBounds_toArray, List.set_cons_zero, List.set_cons_succ]
        go_big_quiet_on
        go_big_quiet_want
        refine quiet_load 32 (.tmp 4) rfl _ rfl _ 32 _ RV.out Tryz.underlying32 rfl (sizeU _ _ _ _ _ _) ?_
        simp only [Act.put, List.setIfInBounds_toArray, List.set_cons_zero, List.set_cons_succ]
        go_big_quiet_on
        go_big_quiet_step (exact calls_bw (EQ.out u v A1 A2 B1 B2 c1 c2 d1 d2 _ E1.out _ (bthen ST.out.bw (BW.h _)) ((ST.out.fact (i := 2) rfl).step (BW.h _)) ((ST.out.fact (i := 1) rfl).step (BW.h _))))
        go_big_quiet_want
        refine quiet_load 32 (.tmp 4) rfl _ rfl _ 32 _ RV.out Tryz.underlying32 rfl (sizeU _ _ _ _ _ _) ?_
        simp only [Act.put, List.setIfInBounds_toArray, List.set_cons_zero, List.set_cons_succ]
        go_big_quiet_on
        go_big_quiet_want
        refine quiet_load 32 (.tmp 3) rfl _ rfl _ 32 _ RU.out Tryz.underlying32 rfl (sizeU _ _ _ _ _ _) ?_
        simp only [Act.put, List.setIfInBounds_toArray, List.set_cons_zero, List.set_cons_succ]
        go_big_quiet_on
        go_big_quiet_step (exact calls_bw (EQ.out v u B1 B2 A1 A2 d1 d2 c1 c2 _ E2.out _ (bthen ST.out.bw (BW.h _)) ((ST.out.fact (i := 1) rfl).step (BW.h _)) ((ST.out.fact (i := 2) rfl).step (BW.h _))))
        iterate 2 go_big_quiet_step (fail)
        go_big_quiet_want
        refine quiet_load 32 (.tmp 3) rfl _ rfl _ 32 _ RU.out Tryz.underlying32 rfl (sizeU _ _ _ _ _ _) ?_
        simp only [Act.put, List.setIfInBounds_toArray, List.set_cons_zero, List.set_cons_succ]
        go_big_quiet_on
        go_big_quiet_want
        refine quiet_load 32 (.tmp 4) rfl _ rfl _ 32 _ RV.out Tryz.underlying32 rfl (sizeU _ _ _ _ _ _) ?_
        simp only [Act.put, List.setIfInBounds_toArray, List.set_cons_zero, List.set_cons_succ]
        go_big_quiet_on
        go_big_quiet_step (exact calls_bw (EQ.out u v A1 A2 B1 B2 c1 c2 d1 d2 _ E1.out _ (bthen ST.out.bw (BW.h _)) ((ST.out.fact (i := 2) rfl).step (BW.h _)) ((ST.out.fact (i := 1) rfl).step (BW.h _))))
        iterate 1 go_big_quiet_step (fail)
        go_big_quiet_want
        refine quiet_load 32 (.tmp 4) rfl _ rfl _ 32 _ RV.out Tryz.underlying32 rfl (sizeU _ _ _ _ _ _) ?_
        simp only [Act.put, List.setIfInBounds_toArray, List.set_cons_zero, List.set_cons_succ]
        go_big_quiet_on
        go_big_quiet_want
        refine quiet_load 32 (.tmp 5) rfl _ rfl _ 32 _ RX.out Tryz.underlying32 rfl (sizeU _ _ _ _ _ _) ?_
        simp only [Act.put, List.setIfInBounds_toArray, List.set_cons_zero, List.set_cons_succ]
        go_big_quiet_on
        go_big_quiet_step (exact calls_bw (EQ.out v x B1 B2 C1 C2 d1 d2 e1 e2 _ E3.out _ (bthen ST.out.bw (BW.h _)) ((ST.out.fact (i := 1) rfl).step (BW.h _)) ((ST.out.fact (i := 0) rfl).step (BW.h _))))
        iterate 2 go_big_quiet_step (fail)
        go_big_quiet_want
        refine quiet_load 32 (.tmp 3) rfl _ rfl _ 32 _ RU.out Tryz.underlying32 rfl (sizeU _ _ _ _ _ _) ?_
        simp only [Act.put, List.setIfInBounds_toArray, List.set_cons_zero, List.set_cons_succ]
        go_big_quiet_on
        go_big_quiet_want
        refine quiet_load 32 (.tmp 5) rfl _ rfl _ 32 _ RX.out Tryz.underlying32 rfl (sizeU _ _ _ _ _ _) ?_
        simp only [Act.put, List.setIfInBounds_toArray, List.set_cons_zero, List.set_cons_succ]
        go_big_quiet_on
        go_big_quiet_step (exact calls_bw (EQ.out u x A1 A2 C1 C2 c1 c2 e1 e2 _ E4.out _ (bthen ST.out.bw (BW.h _)) ((ST.out.fact (i := 2) rfl).step (BW.h _)) ((ST.out.fact (i := 0) rfl).step (BW.h _))))
        iterate 3 go_big_quiet_step (fail)
        refine wpQuiet_nil ?_
        rintro _ ⟨y, rfl⟩
        go_wp2_with fail
        go_meet
        exact ⟨rfl, Lib.hid y.h⟩
  case rest =>
  obtain ⟨rfl, hbc⟩ := hcut
  replace ST := Lib.hid (ST.out.call hbc.out)
  clear hbc RU RV RX
  have RU := Lib.hid (ST.out.fact (i := 5) rfl); have RV := Lib.hid (ST.out.fact (i := 4) rfl)
  have k0 : wc.cell? ⟨g1, 0, none⟩ = some (.string (strOfNums u.sc)) := RU.out.cell 0
  have k1 : wc.cell? ⟨g1, 1, none⟩ = some (.string (strOfNums u.us)) := RU.out.cell 1
  have k2 : wc.cell? ⟨g1, 2, none⟩ = some (.string (strOfNums u.ho)) := RU.out.cell 2
  have k3 : wc.cell? ⟨g1, 3, none⟩ = some (.int .i64 u.po) := RU.out.cell 3
  have k4 : wc.cell? ⟨g1, 4, none⟩ = some (.slice A1 u.ps.length c1) := RU.out.cell 4
  have k5 : wc.cell? ⟨g1, 5, none⟩ = some (.slice A2 u.hs.length c2) := RU.out.cell 5
  cases hn : normL u with
  | none =>
    obtain rfl := EB.out hn
    have HN := Lib.hid hn
    clear hn
    go_wp2_with fail
    refine (norm_bad HN.out A1 A2 c1 c2 wc (ST.out.fact (i := 2) rfl) (HG.out _ ST.out.bw) (HP.out _ ST.out.bw)).mono ?_
    rintro e w3 ⟨rfl, hb3⟩
    have S3 := Lib.hid hb3
    have RZ := Lib.hid (Row.new w3 32 [.string ⟨#[]⟩, .string ⟨#[]⟩, .string ⟨#[]⟩, .int .i64 0, .slice none 0 0, .slice none 0 0])
    go_wp2_with (with_reducible refine wpList_storeG rfl 32 (.tmp 7) (.tmp 62) rfl RZ.out [.string ⟨#[]⟩, .string ⟨#[]⟩, .string ⟨#[]⟩, .int .i64 0, .slice none 0 0, .slice none 0 0] rfl rfl (lenU _ _ _ _ _ _ _ _ _ _ _ _) (sizeU _ _ _ _ _ _) (u_one _ _ _ _) ?_)
    intro w4 R7 G_
    have S4 := Lib.hid (below_store (w := w3) (T := 32) (zs := [.string ⟨#[]⟩, .string ⟨#[]⟩, .string ⟨#[]⟩, .int .i64 0, .slice none 0 0, .slice none 0 0]) (Below.refl _ _) G_.out)
    clear RZ G_
    replace ST := Lib.hid (ST.out.call (bthen S3.out S4.out))
    replace RU := Lib.hid (ST.out.fact (i := 5) rfl); replace RV := Lib.hid (ST.out.fact (i := 4) rfl)
    clear k0 k1 k2 k3 k4 k5 S3 S4 R7
    have k0 : w4.cell? ⟨g1, 0, none⟩ = some (.string (strOfNums u.sc)) := RU.out.cell 0
    have k1 : w4.cell? ⟨g1, 1, none⟩ = some (.string (strOfNums u.us)) := RU.out.cell 1
    have k2 : w4.cell? ⟨g1, 2, none⟩ = some (.string (strOfNums u.ho)) := RU.out.cell 2
    have k3 : w4.cell? ⟨g1, 3, none⟩ = some (.int .i64 u.po) := RU.out.cell 3
    have k4 : w4.cell? ⟨g1, 4, none⟩ = some (.slice A1 u.ps.length c1) := RU.out.cell 4
    have k5 : w4.cell? ⟨g1, 5, none⟩ = some (.slice A2 u.hs.length c2) := RU.out.cell 5
    have m0 : w4.cell? ⟨g2, 0, none⟩ = some (.string (strOfNums v.sc)) := RV.out.cell 0
    have m1 : w4.cell? ⟨g2, 1, none⟩ = some (.string (strOfNums v.us)) := RV.out.cell 1
    have m2 : w4.cell? ⟨g2, 2, none⟩ = some (.string (strOfNums v.ho)) := RV.out.cell 2
    have m3 : w4.cell? ⟨g2, 3, none⟩ = some (.int .i64 v.po) := RV.out.cell 3
    have m4 : w4.cell? ⟨g2, 4, none⟩ = some (.slice B1 v.ps.length d1) := RV.out.cell 4
    have m5 : w4.cell? ⟨g2, 5, none⟩ = some (.slice B2 v.hs.length d2) := RV.out.cell 5
    go_wp2_with fail
    refine (EQ.out u v A1 A2 B1 B2 c1 c2 d1 d2 _ E1.out w4 ST.out.bw (ST.out.fact (i := 2) rfl) (ST.out.fact (i := 1) rfl)).mono ?_
    rintro e w5 ⟨rfl, hb5⟩
    replace ST := Lib.hid (ST.out.call hb5)
    clear k0 k1 k2 k3 k4 k5 m0 m1 m2 m3 m4 m5 hb5
    go_wp2_with fail
    refine (AW.out _ (ST.out.bw)).mono ?_
    rintro _ wz ⟨rfl, hbz⟩
    have BZ := Lib.hid (bthen ST.out.bw hbz)
    go_wp2_with fail
    go_ret
    exact ⟨rfl, BZ.out⟩
  | some n =>
    have UN0 := Lib.hid (norm_ok UB.out hn)
    have EU1 := Lib.hid (eqU_turn UB.out hn)
    have EU2 := Lib.hid (eqU_user hn (turnPm n.ps) (turnPm n.hs))
    have EU3 := Lib.hid (eqU_other UB.out hn ZZ ⟨byD rfl, byD rfl⟩)
    have ENU := Lib.hid (norm_us hn)
    have HN := Lib.hid hn
    clear hn
    go_wp2_with fail
    refine (norm_good HN.out A1 A2 c1 c2 wc (ST.out.fact (i := 2) rfl) (HG.out _ ST.out.bw) (HP.out _ ST.out.bw)).mono ?_
    rintro e w3 ⟨N1', N2', n1, n2, rfl, hb3, un3⟩
    have S3 := Lib.hid hb3
    have UN := Lib.hid un3
    clear hb3 un3
    unfold uS
    have RZ := Lib.hid (Row.new w3 32 [.string ⟨#[]⟩, .string ⟨#[]⟩, .string ⟨#[]⟩, .int .i64 0, .slice none 0 0, .slice none 0 0])
    go_wp2_with (with_reducible refine wpList_storeG rfl 32 (.tmp 7) (.tmp 62) rfl RZ.out [.string (strOfNums n.sc), .string (strOfNums n.us), .string (strOfNums n.ho), .int .i64 n.po, .slice N1' n.ps.length n1, .slice N2' n.hs.length n2] rfl rfl (lenU _ _ _ _ _ _ _ _ _ _ _ _) (sizeU _ _ _ _ _ _) (u_one _ _ _ _) ?_)
    intro w4 R7 G_
    have S4 := Lib.hid (below_store (w := w3) (T := 32) (zs := [.string ⟨#[]⟩, .string ⟨#[]⟩, .string ⟨#[]⟩, .int .i64 0, .slice none 0 0, .slice none 0 0]) (Below.refl _ _) G_.out)
    clear RZ G_
    replace ST := Lib.hid (ST.out.call (bthen S3.out S4.out))
    replace ST := Lib.hid ((ST.out.add (stab_row R7.out (by simp))).add (uarg_nil (UN.out.step S4.out)))
    clear k0 k1 k2 k3 k4 k5 S3 S4 UN RU RV
    generalize w3.heap.size = g7 at *
    have k0 : w4.cell? ⟨g7, 0, none⟩ = some (.string (strOfNums n.sc)) := R7.out.cell 0
    have k1 : w4.cell? ⟨g7, 1, none⟩ = some (.string (strOfNums n.us)) := R7.out.cell 1
    have k2 : w4.cell? ⟨g7, 2, none⟩ = some (.string (strOfNums n.ho)) := R7.out.cell 2
    have k3 : w4.cell? ⟨g7, 3, none⟩ = some (.int .i64 n.po) := R7.out.cell 3
    have k4 : w4.cell? ⟨g7, 4, none⟩ = some (.slice N1' n.ps.length n1) := R7.out.cell 4
    have k5 : w4.cell? ⟨g7, 5, none⟩ = some (.slice N2' n.hs.length n2) := R7.out.cell 5
    have RZ := Lib.hid (Row.new w4 32 [.string ⟨#[]⟩, .string ⟨#[]⟩, .string ⟨#[]⟩, .int .i64 0, .slice none 0 0, .slice none 0 0])
    go_upto_region 9 with (with_reducible refine wpList_storeG rfl 32 (.tmp 9) (.tmp 73) rfl RZ.out [.string (strOfNums n.sc), .string (strOfNums n.us), .string (strOfNums n.ho), .int .i64 n.po, .slice N1' n.ps.length n1, .slice N2' n.hs.length n2] rfl rfl (lenU _ _ _ _ _ _ _ _ _ _ _ _) (sizeU _ _ _ _ _ _) (u_one _ _ _ _) ?_)
    intro w5 R9 G_
    have S5 := Lib.hid (below_store (w := w4) (T := 32) (zs := [.string ⟨#[]⟩, .string ⟨#[]⟩, .string ⟨#[]⟩, .int .i64 0, .slice none 0 0, .slice none 0 0]) (Below.refl _ _) G_.out)
    clear RZ G_
    replace ST := Lib.hid (ST.out.join S5.out (Nat.le_refl _) R9.out)
    clear k0 k1 k2 k3 k4 k5 S5 R9 R7
    generalize w4.heap.size = g9 at *
    have UN := Lib.hid (ST.out.fact (i := 0) rfl); have R7 := Lib.hid (ST.out.fact (i := 1) rfl)
    have L9 := Lib.hid (Row.lt (ST.out.row (i := 0) rfl))
    have k4 : w5.cell? ⟨g7, 4, none⟩ = some (.slice N1' n.ps.length n1) := R7.out.cell 4
    have P1 : n.ps.length ≤ 1000000 := by have := UN0.out.ps.len; omega
    have P2 : n.hs.length ≤ 1000000 := by have := UN0.out.hs.len; omega
    go_wp2_with fail
    refine (turned_any N1' n.ps.length n1 n.ps w5 UN.out.r1 rfl P1 UN.out.s1).mono ?_
    rintro e w6 ⟨v6, rfl, X6⟩
    obtain ⟨T1, t1, rfl, s6⟩ := vx_stab (L := [(g9, 32, [.string (strOfNums n.sc), .string (strOfNums n.us), .string (strOfNums n.ho), .int .i64 n.po, .slice N1' n.ps.length n1, .slice N2' n.hs.length n2])]) X6 (fun k hk => by
      simp only [List.map_cons, List.map_nil, List.mem_cons, List.not_mem_nil, or_false] at hk
      subst hk; exact L9)
    replace ST := Lib.hid ((ST.out.call X6.bw).add s6)
    clear X6 s6 UN R7 L9 k4
    have f0 := Row.frozen (ST.out.row (i := 0) rfl) 4
    have kk : w6.cell? ⟨g9, 4, none⟩ = some (.slice N1' n.ps.length n1) := Row.cell (ST.out.row (i := 0) rfl) 4
    go_upto_region 10 with (fail)
    replace ST := Lib.hid (ST.out.setCell (.slice T1 (turnPm n.ps).length t1) (i := 0) (off := 4) (L' := [(g9, 32, [.string (strOfNums n.sc), .string (strOfNums n.us), .string (strOfNums n.ho), .int .i64 n.po, .slice T1 (turnPm n.ps).length t1, .slice N2' n.hs.length n2])]) rfl rfl)
    clear f0 kk
    generalize w6.setCell ⟨g9, 4, none⟩ (.slice T1 (turnPm n.ps).length t1) = w7 at *
    have UN := Lib.hid (ST.out.fact (i := 1) rfl); have R7 := Lib.hid (ST.out.fact (i := 2) rfl)
    have L9 := Lib.hid (Row.lt (ST.out.row (i := 0) rfl))
    have k5 : w7.cell? ⟨g7, 5, none⟩ = some (.slice N2' n.hs.length n2) := R7.out.cell 5
    go_wp2_with fail
    refine (turned_any N2' n.hs.length n2 n.hs w7 UN.out.r2 rfl P2 UN.out.s2).mono ?_
    rintro e w8 ⟨v8, rfl, X8⟩
    obtain ⟨T2, t2, rfl, s8⟩ := vx_stab (L := [(g9, 32, [.string (strOfNums n.sc), .string (strOfNums n.us), .string (strOfNums n.ho), .int .i64 n.po, .slice T1 (turnPm n.ps).length t1, .slice N2' n.hs.length n2])]) X8 (fun k hk => by
      simp only [List.map_cons, List.map_nil, List.mem_cons, List.not_mem_nil, or_false] at hk
      subst hk; exact L9)
    replace ST := Lib.hid ((ST.out.call X8.bw).add s8)
    clear X8 s8 UN R7 L9 k5
    have f0 := Row.frozen (ST.out.row (i := 0) rfl) 5
    have kk : w8.cell? ⟨g9, 5, none⟩ = some (.slice N2' n.hs.length n2) := Row.cell (ST.out.row (i := 0) rfl) 5
    go_upto_region 11 with (fail)
    replace ST := Lib.hid (ST.out.setCell (.slice T2 (turnPm n.hs).length t2) (i := 0) (off := 5) (L' := [(g9, 32, [.string (strOfNums n.sc), .string (strOfNums n.us), .string (strOfNums n.ho), .int .i64 n.po, .slice T1 (turnPm n.ps).length t1, .slice T2 (turnPm n.hs).length t2])]) rfl rfl)
    clear f0 kk
    generalize w8.setCell ⟨g9, 5, none⟩ (.slice T2 (turnPm n.hs).length t2) = w9 at *
    have UN := Lib.hid (ST.out.fact (i := 2) rfl); have R7 := Lib.hid (ST.out.fact (i := 3) rfl); have RU := Lib.hid (ST.out.fact (i := 9) rfl)
    have R9 := Lib.hid (ST.out.row (i := 0) rfl)
    have UT := Lib.hid (uarg_turn (us := n.us) UN.out UN.out.by_.us UN.out.n2 (ST.out.fact (i := 1) rfl) (ST.out.fact (i := 0) rfl))
    have k0 : w9.cell? ⟨g1, 0, none⟩ = some (.string (strOfNums u.sc)) := RU.out.cell 0
    have k1 : w9.cell? ⟨g1, 1, none⟩ = some (.string (strOfNums u.us)) := RU.out.cell 1
    have k2 : w9.cell? ⟨g1, 2, none⟩ = some (.string (strOfNums u.ho)) := RU.out.cell 2
    have k3 : w9.cell? ⟨g1, 3, none⟩ = some (.int .i64 u.po) := RU.out.cell 3
    have k4 : w9.cell? ⟨g1, 4, none⟩ = some (.slice A1 u.ps.length c1) := RU.out.cell 4
    have k5 : w9.cell? ⟨g1, 5, none⟩ = some (.slice A2 u.hs.length c2) := RU.out.cell 5
    have m0 : w9.cell? ⟨g9, 0, none⟩ = some (.string (strOfNums n.sc)) := R9.out.cell 0
    have m1 : w9.cell? ⟨g9, 1, none⟩ = some (.string (strOfNums n.us)) := R9.out.cell 1
    have m2 : w9.cell? ⟨g9, 2, none⟩ = some (.string (strOfNums n.ho)) := R9.out.cell 2
    have m3 : w9.cell? ⟨g9, 3, none⟩ = some (.int .i64 n.po) := R9.out.cell 3
    have m4 : w9.cell? ⟨g9, 4, none⟩ = some (.slice T1 (turnPm n.ps).length t1) := R9.out.cell 4
    have m5 : w9.cell? ⟨g9, 5, none⟩ = some (.slice T2 (turnPm n.hs).length t2) := R9.out.cell 5
    go_wp2_with fail
    refine (EQ.out u (turnU n n.us) A1 A2 T1 T2 c1 c2 t1 t2 true EU1.out w9 ST.out.bw (ST.out.fact (i := 6) rfl) UT.out).mono ?_
    rintro e w10 ⟨rfl, hb10⟩
    replace ST := Lib.hid (ST.out.call hb10)
    clear k0 k1 k2 k3 k4 k5 m0 m1 m2 m3 m4 m5 hb10 UN R7 RU R9 UT
    have R7 := Lib.hid (ST.out.fact (i := 3) rfl)
    have k1 : w10.cell? ⟨g7, 1, none⟩ = some (.string (strOfNums n.us)) := R7.out.cell 1
    have DS : ∀ w, (Op.stringOp .add (strOfNums n.us) (⟨#[49]⟩ : ByteArray)).run Tryz.prog w = .ok (.string (strOfNums (n.us ++ [49]))) w := fun w => by
      rw [run_string_add_sum (P := Tryz.prog) w _ _ (by rw [num_size, ENU.out]; show u.us.length + 1 ≤ _; omega), show (⟨#[49]⟩ : ByteArray) = strOfNums [49] from rfl, str_app]
    have f0 := Row.frozen (ST.out.row (i := 0) rfl) 1
    have kk : w10.cell? ⟨g9, 1, none⟩ = some (.string (strOfNums n.us)) := Row.cell (ST.out.row (i := 0) rfl) 1
    go_upto_region 14 with (fail)
    replace ST := Lib.hid (ST.out.setCell (.string (strOfNums (n.us ++ [49]))) (i := 0) (off := 1) (L' := [(g9, 32, [.string (strOfNums n.sc), .string (strOfNums (n.us ++ [49])), .string (strOfNums n.ho), .int .i64 n.po, .slice T1 (turnPm n.ps).length t1, .slice T2 (turnPm n.hs).length t2])]) rfl rfl)
    clear f0 kk
    generalize w10.setCell ⟨g9, 1, none⟩ (.string (strOfNums (n.us ++ [49]))) = w11 at *
    clear k1 DS R7
    have R7 := Lib.hid (ST.out.fact (i := 3) rfl)
    have k0 : w11.cell? ⟨g7, 0, none⟩ = some (.string (strOfNums n.sc)) := R7.out.cell 0
    have k1 : w11.cell? ⟨g7, 1, none⟩ = some (.string (strOfNums n.us)) := R7.out.cell 1
    have k2 : w11.cell? ⟨g7, 2, none⟩ = some (.string (strOfNums n.ho)) := R7.out.cell 2
    have k3 : w11.cell? ⟨g7, 3, none⟩ = some (.int .i64 n.po) := R7.out.cell 3
    have k4 : w11.cell? ⟨g7, 4, none⟩ = some (.slice N1' n.ps.length n1) := R7.out.cell 4
    have k5 : w11.cell? ⟨g7, 5, none⟩ = some (.slice N2' n.hs.length n2) := R7.out.cell 5
    have RZ := Lib.hid (Row.new w11 32 [.string ⟨#[]⟩, .string ⟨#[]⟩, .string ⟨#[]⟩, .int .i64 0, .slice none 0 0, .slice none 0 0])
    go_upto_region 15 with (with_reducible refine wpList_storeG rfl 32 (.tmp 10) (.tmp 90) rfl RZ.out [.string (strOfNums n.sc), .string (strOfNums n.us), .string (strOfNums n.ho), .int .i64 n.po, .slice N1' n.ps.length n1, .slice N2' n.hs.length n2] rfl rfl (lenU _ _ _ _ _ _ _ _ _ _ _ _) (sizeU _ _ _ _ _ _) (u_one _ _ _ _) ?_)
    intro w12 R10 G_
    have S12 := Lib.hid (below_store (w := w11) (T := 32) (zs := [.string ⟨#[]⟩, .string ⟨#[]⟩, .string ⟨#[]⟩, .int .i64 0, .slice none 0 0, .slice none 0 0]) (Below.refl _ _) G_.out)
    clear RZ G_
    replace ST := Lib.hid (ST.out.join S12.out (Nat.le_refl _) R10.out)
    clear k0 k1 k2 k3 k4 k5 S12 R10 R7
    generalize w11.heap.size = g10 at *
    have R7 := Lib.hid (ST.out.fact (i := 3) rfl)
    have k4 : w12.cell? ⟨g7, 4, none⟩ = some (.slice N1' n.ps.length n1) := R7.out.cell 4
    replace k4 : (w12.alloc (.cells (#[] : Array Value) 56)).cell? ⟨g7, 4, none⟩ = some (.slice N1' n.ps.length n1) := (R7.out.alloc _).cell 4
    have V0 := Lib.hid (VX.zero w12)
    have NR := Lib.hid ((ST.out.fact (i := 2) rfl : UArg w12 n N1' N2').r1)
    have P3 : n.ps.length ≤ 16000000 := by omega
    have NR2 := Lib.hid (show Rds (w12.alloc (.cells #[] 56)) (w12.alloc (.cells #[] 56)).heap.size N1' (pms n.ps) from (NR.out.below ((Below.refl w12.heap.size w12).alloc (Nat.le_refl _) (.cells #[] 56))).up (by simp))
    have LL := Lib.hid (show ∀ k ∈ ([(g10, 32, [.string (strOfNums n.sc), .string (strOfNums n.us), .string (strOfNums n.ho), .int .i64 n.po, .slice N1' n.ps.length n1, .slice N2' n.hs.length n2]), (g9, 32, [.string (strOfNums n.sc), .string (strOfNums (n.us ++ [49])), .string (strOfNums n.ho), .int .i64 n.po, .slice T1 (turnPm n.ps).length t1, .slice T2 (turnPm n.hs).length t2])] : List Blk).map (·.1), k < w12.heap.size from fun k hk => by
      simp only [List.map_cons, List.map_nil, List.mem_cons, List.not_mem_nil, or_false] at hk
      rcases hk with rfl | rfl
      · exact Row.lt (ST.out.row (i := 0) rfl)
      · exact Row.lt (ST.out.row (i := 1) rfl))
    go_upto_region 16 with (first
      | (with_reducible refine wpList_copyPm rfl (.tmp 91) (.tmp 93) rfl w12.heap.size rfl V0.out n.ps N1' n1 rfl NR2.out P3 ?_; intro v13 w13 V13)
      | (with_reducible refine wpList_pushZ rfl (.tmp 94) (.tmp 96) rfl rfl V13.out rfl (by omega) ?_; intro v14 w14 V14; obtain ⟨Z1, z1, rfl, s14⟩ := vx_stab (L := [(g10, 32, [.string (strOfNums n.sc), .string (strOfNums n.us), .string (strOfNums n.ho), .int .i64 n.po, .slice N1' n.ps.length n1, .slice N2' n.hs.length n2]), (g9, 32, [.string (strOfNums n.sc), .string (strOfNums (n.us ++ [49])), .string (strOfNums n.ho), .int .i64 n.po, .slice T1 (turnPm n.ps).length t1, .slice T2 (turnPm n.hs).length t2])]) V14.out LL.out; replace ST := Lib.hid ((ST.out.call V14.out.bw).add s14); have f0 := Row.frozen (ST.out.row (i := 0) rfl) 4; have kk : w14.cell? ⟨g10, 4, none⟩ = some (.slice N1' n.ps.length n1) := Row.cell (ST.out.row (i := 0) rfl) 4))
    clear V0 NR NR2 k4 R7 V13 V14 s14
    have ZL : (n.ps ++ [ZZ]).length = n.ps.length + 1 := by rw [List.length_append, List.length_singleton]
    replace ST := Lib.hid (ST.out.setCell (.slice Z1 (n.ps.length + 1) z1) (i := 0) (off := 4) (L' := [(g10, 32, [.string (strOfNums n.sc), .string (strOfNums n.us), .string (strOfNums n.ho), .int .i64 n.po, .slice Z1 (n.ps.length + 1) z1, .slice N2' n.hs.length n2]), (g9, 32, [.string (strOfNums n.sc), .string (strOfNums (n.us ++ [49])), .string (strOfNums n.ho), .int .i64 n.po, .slice T1 (turnPm n.ps).length t1, .slice T2 (turnPm n.hs).length t2])]) rfl rfl)
    clear f0 kk LL
    generalize w14.setCell ⟨g10, 4, none⟩ (.slice Z1 (n.ps.length + 1) z1) = w15 at *
    have RU := Lib.hid (ST.out.fact (i := 10) rfl); have R9 := Lib.hid (ST.out.row (i := 1) rfl); have R10 := Lib.hid (ST.out.row (i := 0) rfl)
    have UN := Lib.hid (ST.out.fact (i := 3) rfl)
    have UT := Lib.hid (uarg_turn (us := n.us ++ [49]) UN.out (fun c hc => by
      rcases List.mem_append.1 hc with hc | hc
      · exact UN.out.by_.us c hc
      · simp at hc; omega) (by rw [List.length_append, ENU.out]; show u.us.length + 1 ≤ _; omega) (ST.out.fact (i := 2) rfl) (ST.out.fact (i := 1) rfl))
    have k0 : w15.cell? ⟨g1, 0, none⟩ = some (.string (strOfNums u.sc)) := RU.out.cell 0
    have k1 : w15.cell? ⟨g1, 1, none⟩ = some (.string (strOfNums u.us)) := RU.out.cell 1
    have k2 : w15.cell? ⟨g1, 2, none⟩ = some (.string (strOfNums u.ho)) := RU.out.cell 2
    have k3 : w15.cell? ⟨g1, 3, none⟩ = some (.int .i64 u.po) := RU.out.cell 3
    have k4 : w15.cell? ⟨g1, 4, none⟩ = some (.slice A1 u.ps.length c1) := RU.out.cell 4
    have k5 : w15.cell? ⟨g1, 5, none⟩ = some (.slice A2 u.hs.length c2) := RU.out.cell 5
    have m0 : w15.cell? ⟨g9, 0, none⟩ = some (.string (strOfNums n.sc)) := R9.out.cell 0
    have m1 : w15.cell? ⟨g9, 1, none⟩ = some (.string (strOfNums (n.us ++ [49]))) := R9.out.cell 1
    have m2 : w15.cell? ⟨g9, 2, none⟩ = some (.string (strOfNums n.ho)) := R9.out.cell 2
    have m3 : w15.cell? ⟨g9, 3, none⟩ = some (.int .i64 n.po) := R9.out.cell 3
    have m4 : w15.cell? ⟨g9, 4, none⟩ = some (.slice T1 (turnPm n.ps).length t1) := R9.out.cell 4
    have m5 : w15.cell? ⟨g9, 5, none⟩ = some (.slice T2 (turnPm n.hs).length t2) := R9.out.cell 5
    have q0 : w15.cell? ⟨g10, 0, none⟩ = some (.string (strOfNums n.sc)) := R10.out.cell 0
    have q1 : w15.cell? ⟨g10, 1, none⟩ = some (.string (strOfNums n.us)) := R10.out.cell 1
    have q2 : w15.cell? ⟨g10, 2, none⟩ = some (.string (strOfNums n.ho)) := R10.out.cell 2
    have q3 : w15.cell? ⟨g10, 3, none⟩ = some (.int .i64 n.po) := R10.out.cell 3
    have q4 : w15.cell? ⟨g10, 4, none⟩ = some (.slice Z1 (n.ps.length + 1) z1) := R10.out.cell 4
    have q5 : w15.cell? ⟨g10, 5, none⟩ = some (.slice N2' n.hs.length n2) := R10.out.cell 5
    go_wp2_with fail
    refine (EQ.out u (turnU n (n.us ++ [49])) A1 A2 T1 T2 c1 c2 t1 t2 false EU2.out w15 ST.out.bw (ST.out.fact (i := 7) rfl) UT.out).mono ?_
    rintro e w16 ⟨rfl, hb16⟩
    replace ST := Lib.hid (ST.out.call hb16)
    clear k0 k1 k2 k3 k4 k5 m0 m1 m2 m3 m4 m5 q0 q1 q2 q3 q4 q5 hb16 UN UT RU R9 R10
    have RU := Lib.hid (ST.out.fact (i := 10) rfl); have R10 := Lib.hid (ST.out.row (i := 0) rfl)
    have EM := EQ.out u (moreU n) A1 A2 Z1 N2' c1 c2 z1 n2 false EU3.out w16 ST.out.bw (ST.out.fact (i := 7) rfl) (uarg_more (ST.out.fact (i := 3) rfl) (by omega) (ST.out.fact (i := 0) rfl))
    unfold uS at EM
    rw [show (moreU n).ps.length = n.ps.length + 1 from ZL] at EM
    have EM := Lib.hid EM
    have k0 : w16.cell? ⟨g1, 0, none⟩ = some (.string (strOfNums u.sc)) := RU.out.cell 0
    have k1 : w16.cell? ⟨g1, 1, none⟩ = some (.string (strOfNums u.us)) := RU.out.cell 1
    have k2 : w16.cell? ⟨g1, 2, none⟩ = some (.string (strOfNums u.ho)) := RU.out.cell 2
    have k3 : w16.cell? ⟨g1, 3, none⟩ = some (.int .i64 u.po) := RU.out.cell 3
    have k4 : w16.cell? ⟨g1, 4, none⟩ = some (.slice A1 u.ps.length c1) := RU.out.cell 4
    have k5 : w16.cell? ⟨g1, 5, none⟩ = some (.slice A2 u.hs.length c2) := RU.out.cell 5
    have q0 : w16.cell? ⟨g10, 0, none⟩ = some (.string (strOfNums n.sc)) := R10.out.cell 0
    have q1 : w16.cell? ⟨g10, 1, none⟩ = some (.string (strOfNums n.us)) := R10.out.cell 1
    have q2 : w16.cell? ⟨g10, 2, none⟩ = some (.string (strOfNums n.ho)) := R10.out.cell 2
    have q3 : w16.cell? ⟨g10, 3, none⟩ = some (.int .i64 n.po) := R10.out.cell 3
    have q4 : w16.cell? ⟨g10, 4, none⟩ = some (.slice Z1 (n.ps.length + 1) z1) := R10.out.cell 4
    have q5 : w16.cell? ⟨g10, 5, none⟩ = some (.slice N2' n.hs.length n2) := R10.out.cell 5
    go_wp2_with fail
    refine EM.out.mono ?_
    rintro e w17 ⟨rfl, hb17⟩
    replace ST := Lib.hid (ST.out.call hb17)
    clear k0 k1 k2 k3 k4 k5 q0 q1 q2 q3 q4 q5 hb17 RU R10
    go_wp2_with fail
    refine (AW.out _ (ST.out.bw)).mono ?_
    rintro _ wz ⟨rfl, hbz⟩
    have BZ := Lib.hid (bthen ST.out.bw hbz)
    go_wp2_with fail
    go_ret
    exact ⟨rfl, BZ.out⟩
end Go.Proofs.YthfonniieaiocaaGreatDoor
