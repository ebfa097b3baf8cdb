/- Contracts: message.All, refresh.supports. -/
import Derived.Test.YtcnkjgjimcddiaaGreatDoorAn
namespace Go.Proofs.YtcnkjgjimcddiaaGreatDoor
open Go.RowKit

theorem wpList_pushMany {w wr : World} {ops : Array Oper} {rest : List Oper} {o : Oper} {a : Act} {Q : Exit → Act → World → Prop} (hgd : o.guard = none) (s x : Operand)
    (ho : o.op = .call { callee := .builtin .append, args := #[s, x], argTypes := #[86, 86] }) (v : Value) (ps : List (List Int)) (hs : a.eval s = v) (H : SXL w v ps wr) (qs : List (List Int)) (ab ao m c : Nat) (hx : a.eval x = .slice (some ⟨ab, ao, none⟩) m c) (hm : qs.length = m)
    (hc : ∀ j u, (strs qs)[j]? = some u → wr.cell? ⟨ab, ao + j, none⟩ = some u) (hb : ps.length + m ≤ 16777216)
    (h : ∀ v' w', Hid (SXL w v' (ps ++ qs) w') → wpList Tryz.prog ops Q rest (a.put o.dst v') w') : wpList Tryz.prog ops Q (o :: rest) a wr := by
  obtain ⟨i, hi, hz, hsz, hbt⟩ := infoS
  subst hm
  refine wpList_append_own _ hgd s x 86 ho w.heap.size 9 i _ 1 16 Tryz.underlying86 hi hz hsz hbt rfl (by omega) v ps.length (strs ps) hs H.o ⟨ab, ao, none⟩ qs.length c (strs qs) hx (by rw [strs_len, Nat.mul_one]) (fun j u hu => ?_) (fun u hu => ?_) (by unfold maxLen; omega) (by omega) H.bw.size ?_
  · rw [Addr.add_mid]
    exact hc j u hu
  · obtain ⟨t, _, rfl⟩ := List.mem_map.1 hu
    rfl
  · intro v' w' h2 h3 _
    refine h v' w' (Lib.hid ⟨?_, H.bw.grown h3 H.bw.size (own_block H.o)⟩)
    rw [strs_app, List.length_append]
    exact h2
def one1 (nm : List Int) (h : ByteArray × ByteArray) : List (List Int) := if manyN nm = true then elemsL (byteL h.2) else [byteL h.2]
theorem allH_eq (l : List (ByteArray × ByteArray)) (nm : List Int) : allH l nm = (l.filter (hitN (canonL nm))).flatMap (one1 nm) := rfl
theorem allH_snoc (l : List (ByteArray × ByteArray)) (h : ByteArray × ByteArray) (nm : List Int) : allH (l ++ [h]) nm = allH l nm ++ (if hitN (canonL nm) h = true then one1 nm h else []) := by
  rw [allH_eq, allH_eq, List.filter_append, List.flatMap_append]
  congr 1
  cases hq : hitN (canonL nm) h with
  | true => simp [hq]
  | false => simp [hq]
theorem allH_take_le (l : List (ByteArray × ByteArray)) (nm : List Int) (k : Nat) : (allH (l.take k) nm).length ≤ (allH l nm).length := by
  rw [allH_eq, allH_eq]
  conv => rhs; rw [← List.take_append_drop k l, List.filter_append, List.flatMap_append, List.length_append]
  exact Nat.le_add_right _ _
def ALR (W : World) (l : List (ByteArray × ByteArray)) (nm : List Int) (n : Nat) (v7 v : Value) (wr : World) : Prop := ∃ (k : Nat) (x : Value), x = v7 ∧ k ≤ n ∧ v = .int .i64 k ∧ Hid (SXL W x (allH (l.take k) nm) wr)
set_option maxRecDepth 100000 in
set_option maxHeartbeats 2000000 in
theorem all_any (ms uri rsn nm : ByteArray) (code : Int) (A B : Option Addr) (n c m d : Nat) (l : List (ByteArray × ByteArray)) (w : World) (hA : Rds w w.heap.size A (hds l)) (hn : l.length = n) (hN : n ≤ 16000000) (hl : ∀ h ∈ l, h.1.size ≤ 4000000 ∧ h.2.size ≤ 4000000 ∧ elemsL (byteL h.2) ≠ []) (hM : nm.size ≤ 4000000) (hT : (allH l (byteL nm)).length ≤ 16000000) (hS : SC w) (hK : KD w) :
    Calls Tryz.prog 47 #[.agg #[.string ms, .string uri, .int .i64 code, .string rsn, .slice A n c, .slice B m d], .string nm] w fun e w' => ∃ v, e = .returned v ∧ SXL w v (allH l (byteL nm)) w' := by
  have R := Lib.hid (Row.new w 51 [.string ms, .string uri, .int .i64 code, .string rsn, .slice A n c, .slice B m d])
  have B0 := Lib.hid ((Below.refl w.heap.size w).alloc (Nat.le_refl _) (.cells #[.string ms, .string uri, .int .i64 code, .string rsn, .slice A n c, .slice B m d] 51))
  have HA := Lib.hid ((hA.below B0.out).up B0.out.size); have HN := Lib.hid hn; have HL := Lib.hid hl; have HS := Lib.hid (hS.below B0.out); have HK := Lib.hid (hK.below B0.out)
  have HC := Lib.hid (fun c (h : canonL (byteL nm) = some c) => canonL_by' (byteL_by nm) h)
  have ND := Lib.hid (fun w h => named_any nm w hM h); have MN := Lib.hid (fun w h h2 => manyn_any nm w hM h h2)
  have TOT := Lib.hid (fun k => Nat.le_trans (allH_take_le l (byteL nm) k) hT)
  have ALL := Lib.hid (show allH l (byteL nm) = allH (l.take n) (byteL nm) by rw [List.take_of_length_le (by omega)])
  have SN := Lib.hid (fun k p (h : l[k]? = some p) => show allH (l.take (k + 1)) (byteL nm) = allH (l.take k) (byteL nm) ++ (if hitN (canonL (byteL nm)) p = true then one1 (byteL nm) p else []) by rw [take_succ_at h, allH_snoc])
  have ONE := Lib.hid (fun p => show one1 (byteL nm) p = if manyN (byteL nm) = true then elemsL (byteL p.2) else [byteL p.2] from rfl)
  generalize canonL (byteL nm) = C at *
  generalize manyN (byteL nm) = G at *
  clear hA hn hl hS hM hK hT
  generalize byteL nm = NM0 at *
  go_enter Tryz.func47, Tryz.ntmps47
  go_wp2_with fail
  generalize w.alloc (.cells #[.string ms, .string uri, .int .i64 code, .string rsn, .slice A n c, .slice B m d] 51) = W at *
  refine (ND.out W HS.out).mono ?_
  rintro e W1 ⟨hb, eb, cb, rfl, hnm⟩
  unfold nmV
  have R1 := Lib.hid (R.out.below hb); have HA1 := Lib.hid ((HA.out.below hb).up hb.size); have HS1 := Lib.hid (HS.out.below hb); have HK1 := Lib.hid (HK.out.below hb); have NM1 := Lib.hid hnm; have B1 := Lib.hid (bthen B0.out hb)
  clear hb hnm R HA HS HK B0 ND
  go_wp2_with fail
  refine (MN.out W1 HS1.out HK1.out).mono ?_
  rintro e W2 ⟨rfl, hb⟩
  have R2 := Lib.hid (R1.out.below hb); have HA2 := Lib.hid ((HA1.out.below hb).up hb.size); have HS2 := Lib.hid (HS1.out.below hb); have NM2 := Lib.hid (NM1.out.below hb); have B2 := Lib.hid (bthen B1.out hb)
  clear hb R1 HA1 HS1 HK1 NM1 B1 MN
  have k4 := R2.out.cell 4
  simp only [List.getElem?_cons_succ, List.getElem?_cons_zero] at k4
  go_wp2_with fail
  clear k4
  go_loopw [7, 17] (fun v7 v wr => ALR W2 l NM0 n v7 v wr) (fun _ v _ => n - (intOf v).toNat)
  case atStart => exact ⟨0, _, rfl, Nat.zero_le _, rfl, Lib.hid (by rw [List.take_zero]; exact VX.nil _ _ W2)⟩
  case round =>
    obtain ⟨k, x, rfl, hk, rfl, HX⟩ := hrel
    by_cases hlt : k < n
    · have hd : decide (k < n) = true := by simp [hlt]
      have hd2 : decide ((k : Int) < (n : Int)) = true := by simp; omega
      obtain ⟨p, hp⟩ : ∃ p, l[k]? = some p := ⟨_, List.getElem?_eq_getElem (by rw [HN.out]; exact hlt)⟩
      obtain ⟨x1, o1, rfl, hx1, hc1⟩ := HA2.out (by rw [hds_len, HN.out]; omega)
      have G1 := Lib.hid (show wr.rangeAt x1 (o1 + k * 2) [.string p.1, .string p.2] from fun j v hv => (HX.out.bw.cell (p := ⟨x1, _, none⟩) hx1).trans (Rds.range2 hc1 (k * 2) _ (hds_at hp) j v hv))
      obtain ⟨s1, s2, ne⟩ := HL.out p (List.mem_of_getElem? hp)
      have NE := Lib.hid ne
      have SK := Lib.hid (SN.out k p hp)
      have OP := Lib.hid (ONE.out p)
      have TK := TOT.out k
      have TK1 := Lib.hid (TOT.out (k + 1))
      clear hc1 hp ne
      obtain ⟨pa, pb⟩ := p
      dsimp only at G1 s1 s2 NE OP
      have BN := Lib.hid ((Below.refl wr.heap.size wr).alloc (Nat.le_refl _) (.cells #[.string pa, .string pb] 45))
      have RN := Lib.hid (Row.new wr 45 [.string pa, .string pb])
      have X1 := Lib.hid (HX.out.step BN.out)
      go_upto_region 7 with (with_reducible refine wpList_load_mid rfl 45 (.tmp 19) rfl x1 (o1 + k * 2) rfl [.string pa, .string pb] _ G1.out Tryz.underlying45 rfl (sizeH _ _) ?_)
      generalize wr.alloc (.cells #[.string pa, .string pb] 45) = w5 at *
      generalize wr.heap.size = hb0 at *
      clear BN G1 HX
      have HI := Lib.hid (hitn_any pa pb eb cb C w5 s1 (HS2.out.below X1.out.bw) (NM2.out.below X1.out.bw) HC.out)
      go_wp2_with (with_reducible refine wpList_loadR rfl 45 (.tmp 9) rfl RN.out rfl Tryz.underlying45 rfl (sizeH _ _) ?_)
      refine HI.out.mono ?_
      rintro e w6 ⟨rfl, hb⟩
      have X2 := Lib.hid (X1.out.step hb)
      have RN2 := Lib.hid (RN.out.below hb)
      clear hb HI X1 RN
      cases hq : hitN C (pa, pb) with
      | false =>
        rw [hq, if_neg (by decide), List.append_nil] at SK
        rw [← SK.out] at X2
        clear hq RN2
        go_wp2_with fail
        go_roundw
        case rel => exact ⟨k + 1, _, rfl, by omega, by go_num, X2⟩
        case measure => simp [intOf]; omega
      | true =>
        rw [hq, if_pos rfl] at SK
        have k1 := RN2.out.cell 1
        simp only [List.getElem?_cons_succ, List.getElem?_cons_zero] at k1
        clear hq
        cases G with
        | false =>
          rw [if_neg (by decide)] at OP
          rw [OP.out] at SK
          have HPB := Lib.hid (str_byteL pb)
          have SKL := Lib.hid (show (allH (List.take k l) NM0).length + 1 ≤ 16777216 by omega)
          rw [← HPB.out] at k1
          generalize byteL pb = q at *
          go_wp2_with (with_reducible refine wpList_pushL rfl (.tmp 21) (.tmp 24) rfl _ _ rfl X2.out q rfl SKL.out ?_)
          intro v' w7 X7
          rw [← SK.out] at X7
          clear k1
          go_wp2_with fail
          go_roundw
          case rel => exact ⟨k + 1, _, rfl, by omega, by go_num, X7⟩
          case measure => simp [intOf]; omega
        | true =>
          rw [if_pos rfl] at OP
          rw [OP.out] at SK
          have EQ := Lib.hid (fun w => elems_any pb w s2)
          have SKL := Lib.hid (show (allH (List.take k l) NM0).length + (elemsL (byteL pb)).length ≤ 16777216 by have h1 := TK1.out; rw [SK.out, List.length_append] at h1; omega)
          generalize elemsL (byteL pb) = q at *
          go_wp2_with fail
          refine (EQ.out w6).mono ?_
          rintro e w7 ⟨v, rfl, hv⟩
          have X3 := Lib.hid (X2.out.step hv.bw)
          obtain ⟨A3, c3, rfl, _, hR3⟩ := pms_rds hv
          obtain ⟨ab, ao, rfl, _, hac⟩ := hR3 (by rw [strs_len]; exact List.length_pos_iff.2 NE.out)
          have HAC := Lib.hid hac
          clear hv hR3 hac k1 X2
          go_wp2_with (with_reducible refine wpList_pushMany rfl (.tmp 33) (.tmp 36) rfl _ _ rfl X3.out q ab ao q.length c3 rfl rfl HAC.out SKL.out ?_)
          intro v' w8 X8
          rw [← SK.out] at X8
          go_wp2_with fail
          go_roundw
          case rel => exact ⟨k + 1, _, rfl, by omega, by go_num, X8⟩
          case measure => simp [intOf]; omega
    · obtain rfl : k = n := by omega
      go_wp2_with fail
      go_ret
      exact ⟨_, rfl, by rw [ALL.out]; exact HX.out.base B2.out⟩
end Go.Proofs.YtcnkjgjimcddiaaGreatDoor
