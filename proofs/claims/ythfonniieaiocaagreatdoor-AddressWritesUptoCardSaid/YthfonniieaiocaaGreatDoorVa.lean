/- Contract: address's place. And what stands behind it. -/
import Derived.Test.YthfonniieaiocaaGreatDoorUi
import Derived.Test.YthfonniieaiocaaGreatDoorAl
import Derived.Test.YthfonniieaiocaaGreatDoorBr
import Derived.Lib.MinMax
import Derived.Test.YthfonniieaiocaaGreatDoorBp
set_option linter.unusedVariables false
set_option linter.unusedSimpArgs false
namespace Go.Proofs.YthfonniieaiocaaGreatDoor
open Go.RowKit

def idxZ (X : List Int) (a : Nat) (c : Int) : Int := if X.length ≤ untilL X a [c] then -1 else (untilL X a [c] : Int) - a
theorem skip1 (X : List Int) (a : Nat) (c : Int) : untilL X a [c] = a + skipTo (fun x => x != c) (X.drop a) 0 := by
  unfold untilL skipTo
  rw [List.drop_zero, Nat.zero_add]
  congr 3
  funext x
  rw [List.contains_cons, List.contains_nil, Bool.or_false]; rfl
theorem idxat_any (s : ByteArray) (a : Nat) (c : UInt8) (ha : a ≤ s.size) (w : World) : Calls Tryz.prog 66 #[.string (s.extract a s.size), .int .u8 (c.toNat : Int)] w fun r w' => r = .returned (.int .i64 (idxZ (byteL s) a c.toNat)) ∧ w = w' := by
  have h := indexbyte_any (s.extract a s.size) c w
  have HL := byteL_len s
  have ZL : byteL (s.extract a s.size) = (byteL s).drop a := by
    rw [byteL_extract, List.take_of_length_le (by rw [List.length_drop, HL]; exact Nat.le_refl _)]
  have ZS : (s.extract a s.size).size = s.size - a := by rw [← byteL_len, ZL, List.length_drop, HL]
  rw [ZL, ZS] at h
  refine h.mono fun r w' h1 => ⟨?_, h1.2⟩
  rw [h1.1]
  unfold idxZ
  rw [skip1, HL]
  generalize skipTo (fun x => x != (c.toNat : Int)) ((byteL s).drop a) 0 = k
  by_cases hk : s.size - a ≤ k
  · rw [if_pos hk, if_pos (by omega)]
  · rw [if_neg hk, if_neg (by omega)]
    congr 2
    omega
def LP (cb ub : Nat) (s : ByteArray) (a : Nat) (us : List Value) : List Blk := [(cb, 84, [.string s, .int .i64 a]), (ub, 32, us)]
theorem mine_cset {w wr : World} {cb ub a : Nat} {s : ByteArray} {us : List Value} {FS : List (World → Prop)} (h : Mine w wr (LP cb ub s a us) FS) (a' : Nat) {z : Int} (hz : z = a') : Mine w (wr.setCell ⟨cb, 1, none⟩ (.int .i64 z)) (LP cb ub s a' us) FS := by
  subst hz; exact h.setCell (i := 0) (off := 1) _ rfl rfl
theorem mine_uset {w wr : World} {cb ub a : Nat} {s : ByteArray} {us : List Value} {FS : List (World → Prop)} (h : Mine w wr (LP cb ub s a us) FS) (i : Nat) (u : Value) : Mine w (wr.setCell ⟨ub, i, none⟩ u) (LP cb ub s a (us.set i u)) FS := h.setCell (i := 1) (off := i) u rfl rfl
section
variable {w wr : World} {cb ub a : Nat} {s : ByteArray} {us : List Value} {FS : List (World → Prop)}
theorem mine_c (h : Mine w wr (LP cb ub s a us) FS) : Row wr cb 84 [.string s, .int .i64 a] := h.row (i := 0) rfl
theorem mine_u (h : Mine w wr (LP cb ub s a us) FS) : Row wr ub 32 us := h.row (i := 1) rfl
end
def uCs (sc : ByteArray) (u h : List Int) (p : Int) : List Value := [.string sc, .string (strOfNums u), .string (strOfNums h), .int .i64 p, .slice none 0 0, .slice none 0 0]
def PlP (w : World) (cb ub : Nat) (s sc : ByteArray) (FS : List (World → Prop)) (R : Except (Nat × Int) (List Int × List Int × Int × Nat)) (r : Ending) (w' : World) : Prop := match R with
  | .error q => r = .returned (.tuple #[.int .i64 (q.1 : Nat), .int .u8 q.2]) ∧ Below w.heap.size w w' ∧ q.2 ≠ 0
  | .ok (u, h, p, b) => r = .returned (.tuple #[.int .i64 0, .int .u8 0]) ∧ Mine w w' (LP cb ub s b (uCs sc u h p)) FS
theorem PlP.bad {w w' : World} {cb ub z : Nat} {k : Int} {s sc : ByteArray} {L : List Blk} {FS FS' : List (World → Prop)} {R : Except (Nat × Int) (List Int × List Int × Int × Nat)} (h : R = .error (z, k)) (hb : Mine w w' L FS') (hk : k ≠ 0) : PlP w cb ub s sc FS R (.returned (.tuple #[.int .i64 (z : Nat), .int .u8 k])) w' := by
  subst h; exact ⟨rfl, hb.bw, hk⟩
theorem PlP.good {w w' : World} {cb ub b : Nat} {p : Int} {u h : List Int} {s sc : ByteArray} {FS : List (World → Prop)} {R : Except (Nat × Int) (List Int × List Int × Int × Nat)} (hR : R = .ok (u, h, p, b)) (hb : Mine w w' (LP cb ub s b (uCs sc u h p)) FS) : PlP w cb ub s sc FS R (.returned (.tuple #[.int .i64 0, .int .u8 0])) w' := by
  subst hR; exact ⟨rfl, hb⟩
def plcV (xs : List Int) (u : List Int) (b : Nat) : Except (Nat × Int) (List Int × List Int × Int × Nat) :=
  match hostL (subL xs b (hostEnd xs b)) with
  | none => .error (b, 5)
  | some h =>
    match portL xs (hostEnd xs b) with
    | .error e => .error e
    | .ok (p, c) => .ok (u, h, p, c)
theorem placeL_eq (xs : List Int) (a : Nat) : placeL xs a = match userL xs a with
    | .error e => .error e
    | .ok (u, b) => plcV xs u b := rfl
def UsrR (w : World) (cb ub : Nat) (s sc : ByteArray) (FS : List (World → Prop)) (U : Except (Nat × Int) (List Int × Nat)) (wx : World) : Prop := ∃ (u : List Int) (b : Nat), b ≤ s.size ∧ Hid (U = .ok (u, b)) ∧ Hid (Mine w wx (LP cb ub s b (uCs sc u [] 0)) FS)
theorem asc_58 : Asc7 ⟨#[58, 59, 63]⟩ := fun j b h => by
  have hm := List.mem_of_getElem? h
  simp only [List.mem_cons, List.not_mem_nil, or_false] at hm
  rcases hm with rfl | rfl | rfl <;> decide
theorem asc_59 : Asc7 ⟨#[59, 63]⟩ := fun j b h => by
  have hm := List.mem_of_getElem? h
  simp only [List.mem_cons, List.not_mem_nil, or_false] at hm
  rcases hm with rfl | rfl <;> decide
theorem asc_93 : Asc7 ⟨#[93]⟩ := fun j b h => by
  have hm := List.mem_of_getElem? h
  simp only [List.mem_cons, List.not_mem_nil, or_false] at hm
  subst hm; decide
theorem sizeTx (a : Value) : (Tryz.prog.info? 82).map (·.size) = some [a].length := show (Tryz.prog.info? 82).map (·.size) = some 1 by kernel_rfl
theorem Row.text {w : World} {cb : Nat} {s : ByteArray} {a : Int} (h : Row w cb 84 [.string s, .int .i64 a]) : w.rangeAt cb 0 [.string s] := fun j v hv => by
  cases j with
  | zero => simp only [List.getElem?_cons_zero, Option.some.injEq] at hv; subst hv; exact h.cell 0
  | succ j => simp at hv
theorem quiet_part {P : Program} {o : Oper} {a : Act} {w : World} {K : Act → Prop} (ty : TypeId) (x : Operand) (ho : o.op = .load ty x) (b : Nat) (hx : a.eval x = .pointer (some ⟨b, 0, none⟩)) (cs : List Value) (d : TypeDesc) (hr : ∀ y : BW w, y.w.rangeAt b 0 cs)
    (hu : P.underlying ty = some d) (hd : d.isRow = true) (hi : (P.info? ty).map (·.size) = some cs.length) (h : K (a.put o.dst (.agg cs.toArray))) : o.quiet P a (fun w' => ∃ y : BW w, w' = y.w) K :=
  ⟨.agg cs.toArray, fun w' ⟨y, hy⟩ => by
    subst hy
    unfold Oper.quietAt execOp
    simp only [ho, hx, Instr.loadAt, Instr.sureAddr, Sem.run_bind, Sem.run_pure, Result.andThen_ok, run_loadVar_mid y.w b 0 ty cs d (hr y) hu hd hi]
    exact ⟨rfl, rfl⟩, h⟩
set_option maxRecDepth 100000 in
set_option maxHeartbeats 4000000 in
theorem place_any (w wr : World) (cb ub a : Nat) (s sc : ByteArray) (FS : List (World → Prop)) (H : Mine w wr (LP cb ub s a (uCs sc [] [] 0)) FS) (ha : a ≤ s.size) (hs : s.size ≤ 4000000) (hC : CLS w) (hG : GM w) (hP : PT w) :
    Calls Tryz.prog 67 #[.pointer (some ⟨cb, 0, none⟩), .pointer (some ⟨ub, 0, none⟩)] wr (PlP w cb ub s sc FS (placeL (byteL s) a)) := by
  have HM := kd H; have HC := kd hC; have HG := kd hG; have HP := kd hP
  have HL := byteL_len s
  obtain ⟨u1, u2⟩ := until_le (xs := byteL s) (a := a) (st := [64]) (by rw [HL]; exact ha)
  have IX := kd (fun w => (idxat_any s a 64 ha w).mono (R' := fun r w' => r = .returned (.int .i64 (idxZ (byteL s) a 64)) ∧ ∃ q, w' = w.drewN q) fun r w' h => ⟨h.1, 0, h.2.symm⟩)
  have ZE := kd (show idxZ (byteL s) a 64 = if s.size ≤ untilL (byteL s) a [64] then -1 else (untilL (byteL s) a [64] : Int) - a by unfold idxZ; rw [HL])
  have PE := kd (placeL_eq (byteL s) a)
  have UE := kd (show userL (byteL s) a = if s.size ≤ untilL (byteL s) a [64] then .ok ([], a) else
    match wrongL ((byteL s).take (untilL (byteL s) a [64])) 0 a with
    | some i => .error (i, if (byteL s).getD i 0 = 58 then 15 else 5)
    | none => if untilL (byteL s) a [64] = a then .error (untilL (byteL s) a [64], 5) else .ok (contL (subL (byteL s) a (untilL (byteL s) a [64])), untilL (byteL s) a [64] + 1) by rw [← HL]; rfl)
  have BAD := kd (fun w' z k' L FS' (h : placeL (byteL s) a = .error (z, k')) hb hk => PlP.bad (w := w) (w' := w') (cb := cb) (ub := ub) (z := z) (k := k') (s := s) (sc := sc) (L := L) (FS := FS) (FS' := FS') h hb hk)
  have GOOD := kd (fun w' u h p b (hR : placeL (byteL s) a = .ok (u, h, p, b)) hb => PlP.good (w := w) (w' := w') (cb := cb) (ub := ub) (b := b) (p := p) (u := u) (h := h) (s := s) (sc := sc) (FS := FS) hR hb)
  generalize PlP w cb ub s sc FS (placeL (byteL s) a) = PP at *
  generalize placeL (byteL s) a = R at *
  generalize userL (byteL s) a = U at *
  generalize untilL (byteL s) a [64] = k at *
  generalize idxZ (byteL s) a 64 = z at *
  have k0 : wr.cell? ⟨cb, 0, none⟩ = some (.string s) := (mine_c HM.out).cell 0
  have k1 : wr.cell? ⟨cb, 1, none⟩ = some (.int .i64 a) := (mine_c HM.out).cell 1
  have i1 : (a : Int) ≤ (s.size : Int) := by omega
  rw [HL] at u2
  clear H hC hG hP HL
  go_enter Tryz.func67, Tryz.ntmps67
  go_wp2_with fail
  go_quiet ((go_at_call 66; exact Calls.quiet_of (IX.out _)))
  have M1 := kd (HM.out.call (below_drewN wr nq))
  clear k0 k1 HM
  generalize wr.drewN nq = w1 at *
  go_upto_if 28 with (fail)
  go_cut [6] (fun _ wx => UsrR w cb ub s sc FS U wx)
  case first =>
    by_cases hk : s.size ≤ k
    · have Z2 := ZE.out.trans (if_pos hk)
      have U2 := kd (UE.out.trans (if_pos hk))
      subst Z2
      clear ZE UE
      go_wp2_with fail
      go_meet
      exact ⟨[], a, ha, U2, M1⟩
    · have Z2 := ZE.out.trans (if_neg hk)
      have U2 := kd (UE.out.trans (if_neg hk))
      have z0 : decide ((0 : Int) ≤ z) = true := by simp; omega
      have z1 : (a : Int) + z = (k : Int) := by omega
      have z2 : (z == 0) = decide (k = a) := by rw [Bool.eq_iff_iff]; simp; omega
      clear Z2 ZE UE
      have k1 : w1.cell? ⟨cb, 1, none⟩ = some (.int .i64 a) := (mine_c M1.out).cell 1
      have WR := kd (wrong_any w1 cb a k 0 s (mine_c M1.out) u2 hs ha (HC.out.below M1.out.bw))
      have WL := kd (fun i (h : wrongL ((byteL s).take k) 0 a = some i) => wrong_le (xs := byteL s) (k := 0) (a := a) (b := k) (by rw [byteL_len]; exact u2) h)
      generalize wrongL ((byteL s).take k) 0 a = W at *
      go_wp2_with fail
      clear k1
      refine WR.out.mono ?_
      rintro r w2 ⟨rfl, hb⟩
      have M2 := kd (M1.out.call hb)
      clear hb M1 WR
      cases W with
      | some i =>
        rw [show wrV (some i) = .tuple #[.int .i64 i, .bool true] from rfl]
        obtain ⟨w1l, w2l⟩ := WL.out i rfl
        have jx := fun w => idx_str s (i := i) (by omega) (z := (i : Int)) rfl w
        have k0 : w2.cell? ⟨cb, 0, none⟩ = some (.string s) := (mine_c M2.out).cell 0
        have E := kd (show R = .error (i, if (byteL s).getD i 0 = 58 then 15 else 5) by rw [PE.out, U2.out])
        generalize (byteL s).getD i 0 = c at *
        by_cases hc : c = 58
        · subst hc
          have E2 := kd (show R = .error (i, 15) from E.out)
          go_wp2_with fail
          exact BAD.out _ _ _ _ _ E2.out M2.out (by decide)
        · have E2 := kd (show R = .error (i, 5) by rw [E.out, if_neg hc])
          have q0 : (c == 58) = false := by simpa using hc
          clear E hc
          go_wp2_with fail
          exact BAD.out _ _ _ _ _ E2.out M2.out (by decide)
      | none =>
        rw [show wrV none = .tuple #[.int .i64 0, .bool false] from rfl]
        by_cases hka : k = a
        · have E := kd (show R = .error (k, 5) by rw [PE.out, U2.out]; dsimp only; rw [if_pos hka])
          rw [decide_eq_true hka] at z2
          clear hka
          go_wp2_with fail
          exact BAD.out _ _ _ _ _ E.out M2.out (by decide)
        · have U3 := kd (show U = .ok (contL (subL (byteL s) a k), k + 1) from U2.out.trans (if_neg hka))
          rw [decide_eq_false hka] at z2
          have ZL : byteL (s.extract a k) = subL (byteL s) a k := byteL_extract s a k
          have ZS : (s.extract a k).size ≤ 4000000 := by rw [← byteL_len, ZL]; have := (subL_sub (byteL s) a k).length_le; rw [byteL_len] at this; omega
          have CT := kd (fun w => content_any (s.extract a k) w ZS)
          rw [ZL] at CT
          generalize contL (subL (byteL s) a k) = ct at *
          have i2 : (a : Int) ≤ (k : Int) := by omega
          have i3 : (k : Int) ≤ (s.size : Int) := by omega
          have kl : k + 1 ≤ s.size := by omega
          clear ZL ZS U2 hka PE WL
          go_upto_region 11 with (fail)
          have q0 : ∀ x : BW w2, x.w.cell? ⟨cb, 0, none⟩ = some (.string s) := fun x => (mine_c M2.out).later x 0
          have q1 : ∀ x : BW w2, x.w.cell? ⟨cb, 1, none⟩ = some (.int .i64 a) := fun x => (mine_c M2.out).later x 1
          refine region_bwt 15 (by kernel_rfl) (by kernel_rfl) ?_
          simp only [List.take_succ_cons, List.take_zero, List.drop_succ_cons, List.drop_zero]
          iterate 12 go_big_quiet_step (fail)
          go_big_quiet_step (exact calls_bw (CT.out _))
          iterate 2 go_big_quiet_step (fail)
          refine wpQuiet_nil ?_
          rintro _ ⟨x, rfl⟩
          have M3 := kd (M2.out.call x.h)
          clear q0 q1 M2
          generalize x.w = w3 at *
          have f1 : w3.frozen? ⟨ub, 1, none⟩ = false := (mine_u M3.out).frozen 1
          have c1 : w3.cell? ⟨ub, 1, none⟩ = some (.string (strOfNums [])) := (mine_u M3.out).cell 1
          have M4 := kd (show Mine w (w3.setCell ⟨ub, 1, none⟩ (.string (strOfNums ct))) (LP cb ub s a (uCs sc ct [] 0)) FS from mine_uset M3.out 1 _)
          go_upto_region 12 with (fail)
          clear f1 c1 M3
          generalize w3.setCell ⟨ub, 1, none⟩ (.string (strOfNums ct)) = w4 at *
          have f1 : w4.frozen? ⟨cb, 1, none⟩ = false := (mine_c M4.out).frozen 1
          have c1 : w4.cell? ⟨cb, 1, none⟩ = some (.int .i64 a) := (mine_c M4.out).cell 1
          have M5 := kd (mine_cset M4.out (k + 1) (z := (k : Int) + 1) (by push_cast; rfl))
          go_wp2_with fail
          go_meet
          exact ⟨ct, k + 1, kl, U3, M5⟩
  case rest =>
  rename_i KK hKK
  obtain ⟨u, b, hb, HU, M⟩ := hcut
  refine hKK _ _ ?_
  clear hKK KK
  have PE2 := kd (show R = plcV (byteL s) u b by rw [PE.out, HU.out])
  clear PE UE HU IX ZE M1 u1 u2 i1 ha
  obtain ⟨q1, q2⟩ := until_le (xs := byteL s) (a := b) (st := [58, 59, 63]) (by rw [byteL_len]; exact hb)
  obtain ⟨q3, q4⟩ := until_le (xs := byteL s) (a := b) (st := [93]) (by rw [byteL_len]; exact hb)
  obtain ⟨q5, q6⟩ := hostEnd_le (xs := byteL s) (a := b) (by rw [byteL_len]; exact hb)
  rw [byteL_len] at q2 q4 q6
  have HE := kd (show hostEnd (byteL s) b = if seesB (byteL s) b 91 = true then min (untilL (byteL s) b [93] + 1) s.size else untilL (byteL s) b [58, 59, 63] by rw [← byteL_len]; rfl)
  have UN1 := kd (fun w => until_any s ⟨#[58, 59, 63]⟩ b w hs hb (by decide) (by decide) asc_58)
  have UN2 := kd (fun w => until_any s ⟨#[93]⟩ b w hs hb (by decide) (by decide) asc_93)
  simp only [show byteL ⟨#[58, 59, 63]⟩ = [58, 59, 63] by rfl] at UN1
  simp only [show byteL ⟨#[93]⟩ = [93] by rfl] at UN2
  have PV := kd (show plcV (byteL s) u b = match hostL (subL (byteL s) b (hostEnd (byteL s) b)) with
    | none => .error (b, 5)
    | some h => match portL (byteL s) (hostEnd (byteL s) b) with
      | .error e => .error e
      | .ok (p, c) => .ok (u, h, p, c) from rfl)
  have SE := kd (fun w wr (h : Mine w wr (LP cb ub s b (uCs sc u [] 0)) FS) => cursees_any wr cb b 91 s (mine_c h))
  generalize hostEnd (byteL s) b = he at *
  generalize untilL (byteL s) b [58, 59, 63] = e58 at *
  generalize untilL (byteL s) b [93] = e93 at *
  generalize seesB (byteL s) b 91 = s91 at *
  have k0 : wc.cell? ⟨cb, 0, none⟩ = some (.string s) := (mine_c M.out).cell 0
  have k1 : wc.cell? ⟨cb, 1, none⟩ = some (.int .i64 b) := (mine_c M.out).cell 1
  have RG := kd (mine_c M.out).text
  have i1 : (b : Int) ≤ (he : Int) := by omega
  have i2 : (he : Int) ≤ (s.size : Int) := by omega
  go_wp2_with (with_reducible refine wpList_load_mid rfl 82 (.tmp 81) rfl cb 0 rfl [.string s] _ RG.out Tryz.underlying82 rfl (sizeTx _) ?_)
  refine (UN1.out _).mono ?_
  rintro _ w2 ⟨rfl, hb2⟩
  have M2 := kd (M.out.call hb2)
  clear k0 k1 RG hb2 M
  have k0 : w2.cell? ⟨cb, 0, none⟩ = some (.string s) := (mine_c M2.out).cell 0
  go_wp2_with fail
  refine (SE.out _ _ M2.out).mono ?_
  rintro _ _ ⟨rfl, nq3, rfl⟩
  have M3 := kd (M2.out.call (below_drewN w2 nq3))
  clear k0 M2
  generalize w2.drewN nq3 = w3 at *
  go_upto_if 86 with (fail)
  go_cut [11] (fun v wx => v = .int .i64 (he : Int) ∧ Hid (Mine w wx (LP cb ub s b (uCs sc u [] 0)) FS))
  case first =>
    cases s91 with
    | false =>
      have E := kd (HE.out.trans (if_neg (by decide)))
      obtain rfl := E.out
      go_wp2_with fail
      go_meet
      exact ⟨rfl, M3⟩
    | true =>
      have E := kd (HE.out.trans (if_pos rfl))
      have E2 : min ((e93 : Int) + 1) (s.size : Int) = (he : Int) := by rw [E.out]; omega
      go_upto_region 16 with (fail)
      have q0 : ∀ x : BW w3, x.w.cell? ⟨cb, 0, none⟩ = some (.string s) := fun x => (mine_c M3.out).later x 0
      refine region_bw (by kernel_rfl) (by kernel_rfl) ?_
      iterate 3 go_big_quiet_step (fail)
      go_big_quiet_want
      refine quiet_part 82 (.tmp 89) rfl cb rfl [.string s] _ (fun y => ((mine_c M3.out).below y.h).text) Tryz.underlying82 rfl (sizeTx _) ?_
      simp only [Act.put, List.setIfInBounds_toArray, List.set_cons_zero, List.set_cons_succ]
      go_big_quiet_on
      go_big_quiet_step (fail)
      go_big_quiet_step (exact calls_bw (UN2.out _))
      iterate 6 go_big_quiet_step (fail)
      iterate 3 go_big_quiet_step (fail)
      refine wpQuiet_nil ?_
      rintro _ ⟨x, rfl⟩
      have M4 := kd (M3.out.call x.h)
      clear q0 M3
      generalize x.w = w4 at *
      go_wp2_with fail
      go_meet
      exact ⟨rfl, M4⟩
  case rest =>
  obtain ⟨rfl, M4⟩ := hcut
  clear HE SE UN1 UN2 M3 q1 q2 q3 q4
  have k0 : wc.cell? ⟨cb, 0, none⟩ = some (.string s) := (mine_c M4.out).cell 0
  have ZL : byteL (s.extract b he) = subL (byteL s) b he := byteL_extract s b he
  have ZS : (s.extract b he).size ≤ 4000000 := by rw [← byteL_len, ZL]; have := (subL_sub (byteL s) b he).length_le; rw [byteL_len] at this; omega
  have HO := kd (adhost_any (s.extract b he) wc ZS (HG.out.below M4.out.bw) (HP.out.below M4.out.bw))
  rw [ZL] at HO
  clear ZL ZS
  generalize hostL (subL (byteL s) b he) = H at *
  go_wp2_with fail
  refine (HO.out).mono ?_
  rintro _ w5 ⟨rfl, hb5⟩
  have M5 := kd (M4.out.call hb5)
  clear k0 hb5 M4 HO
  cases H with
  | none =>
    rw [show hostV none = .tuple #[.string ⟨#[]⟩, .bool false] from rfl]
    have E := kd (show R = .error (b, 5) by rw [PE2.out, PV.out])
    clear PE2 PV
    go_wp2_with fail
    exact BAD.out _ _ _ _ _ E.out M5.out (by decide)
  | some h =>
    rw [show hostV (some h) = .tuple #[.string (strOfNums h), .bool true] from rfl]
    have RE1 := kd (fun z k (hq : portL (byteL s) he = .error (z, k)) => show R = .error (z, k) by rw [PE2.out, PV.out, hq])
    have RE2 := kd (fun p c (hq : portL (byteL s) he = .ok (p, c)) => show R = .ok (u, h, p, c) by rw [PE2.out, PV.out, hq])
    clear PE2 PV
    have PO1 := kd (fun (hq : seesB (byteL s) he 58 = true) => show portL (byteL s) he = if (decnL (subL (byteL s) (he + 1) (untilL (byteL s) (he + 1) [59, 63]))).2 ≠ 0 then .error (he + 1, (decnL (subL (byteL s) (he + 1) (untilL (byteL s) (he + 1) [59, 63]))).2) else if (decnL (subL (byteL s) (he + 1) (untilL (byteL s) (he + 1) [59, 63]))).1 < 1 ∨ 65535 < (decnL (subL (byteL s) (he + 1) (untilL (byteL s) (he + 1) [59, 63]))).1 then .error (he + 1, 3) else .ok ((decnL (subL (byteL s) (he + 1) (untilL (byteL s) (he + 1) [59, 63]))).1, untilL (byteL s) (he + 1) [59, 63]) from if_pos hq)
    have PO0 := kd (fun (hq : seesB (byteL s) he 58 = false) => show portL (byteL s) he = if he < s.size ∧ seesB (byteL s) he 59 = false ∧ seesB (byteL s) he 63 = false then .error (he, 5) else .ok (0, he) by rw [← byteL_len]; exact if_neg (by rw [show atL (byteL s) he 58 = false from hq]; decide))
    have AT := kd (fun (hq : seesB (byteL s) he 58 = true) => show he + 1 ≤ s.size by have := (atL_lt (show atL (byteL s) he 58 ≠ false by rw [show atL (byteL s) he 58 = true from hq]; decide)).1; rw [byteL_len] at this; exact this)
    have SE1 := kd (fun w wr (hh : Mine w wr (LP cb ub s he (uCs sc u h 0)) FS) c => cursees_any wr cb he c s (mine_c hh))
    have EN := kd (fun w wr (hh : Mine w wr (LP cb ub s he (uCs sc u h 0)) FS) => curended_any wr cb he s (mine_c hh))
    go_upto_region 20 with (fail)
    have f1 : w5.frozen? ⟨ub, 2, none⟩ = false := (mine_u M5.out).frozen 2
    have c1 : w5.cell? ⟨ub, 2, none⟩ = some (.string (strOfNums [])) := (mine_u M5.out).cell 2
    have M6 := kd (show Mine w (w5.setCell ⟨ub, 2, none⟩ (.string (strOfNums h))) (LP cb ub s b (uCs sc u h 0)) FS from mine_uset M5.out 2 _)
    have f2 : (w5.setCell ⟨ub, 2, none⟩ (.string (strOfNums h))).frozen? ⟨cb, 1, none⟩ = false := (mine_c M6.out).frozen 1
    have c2 : (w5.setCell ⟨ub, 2, none⟩ (.string (strOfNums h))).cell? ⟨cb, 1, none⟩ = some (.int .i64 b) := (mine_c M6.out).cell 1
    have M7 := kd (mine_cset M6.out he (z := (he : Int)) rfl)
    go_upto_region 21 with (fail)
    clear f1 c1 f2 c2 M5 M6
    generalize (w5.setCell ⟨ub, 2, none⟩ (.string (strOfNums h))).setCell ⟨cb, 1, none⟩ (.int .i64 (he : Int)) = w7 at *
    go_wp2_with fail
    refine (SE1.out _ _ M7.out 58).mono ?_
    rintro _ _ ⟨rfl, nq8, rfl⟩
    have M8 := kd (M7.out.call (below_drewN w7 nq8))
    clear M7
    generalize w7.drewN nq8 = w8 at *
    generalize portL (byteL s) he = PO at *
    cases h58 : seesB (byteL s) he 58 with
    | true =>
      have PO2 := kd (PO1.out h58)
      have A2 := AT.out h58
      obtain ⟨a1, ha1⟩ : ∃ a1, a1 = he + 1 := ⟨_, rfl⟩
      rw [← ha1] at PO2 A2
      have i3 : (he : Int) + 1 = (a1 : Int) := by omega
      obtain ⟨q1, q2⟩ := until_le (xs := byteL s) (a := a1) (st := [59, 63]) (by rw [byteL_len]; exact A2)
      rw [byteL_len] at q2
      have UN := kd (fun w => until_any s ⟨#[59, 63]⟩ a1 w hs A2 (by decide) (by decide) asc_59)
      simp only [show byteL ⟨#[59, 63]⟩ = [59, 63] by rfl] at UN
      generalize untilL (byteL s) a1 [59, 63] = k at *
      have ZL : byteL (s.extract a1 k) = subL (byteL s) a1 k := byteL_extract s a1 k
      have NU := kd (fun w => number_any (s.extract a1 k) w)
      rw [ZL] at NU
      have DV := decn_val (subL (byteL s) a1 k)
      generalize decnL (subL (byteL s) a1 k) = p at *
      obtain ⟨n, er⟩ := p
      rw [show decV (n, er) = .tuple #[.int .i64 n, .int .u8 er] from rfl] at NU
      dsimp only at DV PO2
      clear PO1 PO0 AT EN SE1 h58 ZL ha1 q5 q6
      have k1 : w8.cell? ⟨cb, 1, none⟩ = some (.int .i64 he) := (mine_c M8.out).cell 1
      have f1 : w8.frozen? ⟨cb, 1, none⟩ = false := (mine_c M8.out).frozen 1
      have M9 := kd (mine_cset M8.out a1 (z := (a1 : Int)) rfl)
      go_upto_region 23 with (fail)
      clear k1 f1 M8 i3
      generalize w8.setCell ⟨cb, 1, none⟩ (.int .i64 (a1 : Int)) = w9 at *
      have q0 : ∀ x : BW w9, x.w.cell? ⟨cb, 0, none⟩ = some (.string s) := fun x => (mine_c M9.out).later x 0
      have q1' : ∀ x : BW w9, x.w.cell? ⟨cb, 1, none⟩ = some (.int .i64 a1) := fun x => (mine_c M9.out).later x 1
      refine region_bw (by kernel_rfl) (by kernel_rfl) ?_
      iterate 7 go_big_quiet_step (fail)
      go_big_quiet_want
      refine quiet_part 82 (.tmp 139) rfl cb rfl [.string s] _ (fun y => ((mine_c M9.out).below y.h).text) Tryz.underlying82 rfl (sizeTx _) ?_
      simp only [Act.put, List.setIfInBounds_toArray, List.set_cons_zero, List.set_cons_succ]
      go_big_quiet_on
      iterate 4 go_big_quiet_step (fail)
      go_big_quiet_step (exact calls_bw (UN.out _))
      iterate 2 go_big_quiet_step (fail)
      refine wpQuiet_nil ?_
      rintro _ ⟨x, rfl⟩
      have MA := kd (M9.out.call x.h)
      clear q0 q1' M9 UN
      generalize x.w = wa at *
      have k0 : wa.cell? ⟨cb, 0, none⟩ = some (.string s) := (mine_c MA.out).cell 0
      have k1 : wa.cell? ⟨cb, 1, none⟩ = some (.int .i64 a1) := (mine_c MA.out).cell 1
      have i4 : (a1 : Int) ≤ (k : Int) := by omega
      have i5 : (k : Int) ≤ (s.size : Int) := by omega
      go_wp2_with fail
      refine (NU.out _).mono ?_
      rintro _ _ ⟨rfl, rfl⟩
      clear k0 k1 NU
      by_cases he0 : er = 0
      · subst he0
        clear DV
        by_cases hn1 : n < 1
        · have d1 : decide (n < 1) = true := by simp [hn1]
          have E := kd (RE1.out a1 3 (by rw [PO2.out, if_neg (by simp), if_pos (.inl hn1)]))
          clear PO2 hn1 RE1 RE2
          go_wp2_with fail
          exact BAD.out _ _ _ _ _ E.out MA.out (by decide)
        · have d1 : decide (n < 1) = false := by simp; omega
          by_cases hn2 : 65535 < n
          · have d2 : decide (65535 < n) = true := by simp [hn2]
            have E := kd (RE1.out a1 3 (by rw [PO2.out, if_neg (by simp), if_pos (.inr hn2)]))
            clear PO2 hn1 hn2 RE1 RE2
            go_wp2_with fail
            exact BAD.out _ _ _ _ _ E.out MA.out (by decide)
          · have d2 : decide (65535 < n) = false := by simp; omega
            have E := kd (RE2.out n k (by rw [PO2.out, if_neg (by simp), if_neg (by omega)]))
            clear PO2 hn1 hn2 RE1 RE2
            go_upto_region 29 with (fail)
            have f1 : wa.frozen? ⟨ub, 3, none⟩ = false := (mine_u MA.out).frozen 3
            have c1 : wa.cell? ⟨ub, 3, none⟩ = some (.int .i64 0) := (mine_u MA.out).cell 3
            have MB := kd (show Mine w (wa.setCell ⟨ub, 3, none⟩ (.int .i64 n)) (LP cb ub s a1 (uCs sc u h n)) FS from mine_uset MA.out 3 _)
            have f2 : (wa.setCell ⟨ub, 3, none⟩ (.int .i64 n)).frozen? ⟨cb, 1, none⟩ = false := (mine_c MB.out).frozen 1
            have c2 : (wa.setCell ⟨ub, 3, none⟩ (.int .i64 n)).cell? ⟨cb, 1, none⟩ = some (.int .i64 a1) := (mine_c MB.out).cell 1
            have MC := kd (mine_cset MB.out k (z := (k : Int)) rfl)
            go_wp2_with fail
            exact GOOD.out _ _ _ _ _ E.out MC.out
      · have d0 : (er == 0) = false := by simpa using he0
        have E := kd (RE1.out a1 er (by rw [PO2.out, if_pos he0]))
        clear PO2 DV RE1 RE2
        have HN := kd he0
        clear he0
        go_wp2_with fail
        exact BAD.out _ _ _ _ _ E.out MA.out HN.out
    | false =>
      have PO2 := kd (PO0.out h58)
      clear PO1 PO0 AT h58
      go_wp2_with fail
      refine (EN.out _ _ M8.out).mono ?_
      rintro _ _ ⟨rfl, nq9, rfl⟩
      have M9 := kd (M8.out.call (below_drewN w8 nq9))
      clear M8 EN
      generalize w8.drewN nq9 = w9 at *
      have HEq := kd (show decide (s.size ≤ he) = true → R = .ok (u, h, 0, he) from fun h => RE2.out 0 he (by rw [PO2.out, if_neg (fun hh => by have := of_decide_eq_true h; omega)]))
      have H59 := kd (show seesB (byteL s) he 59 = true → R = .ok (u, h, 0, he) from fun h => RE2.out 0 he (by rw [PO2.out, if_neg (fun hh => by rw [hh.2.1] at h; cases h)]))
      have H63 := kd (show seesB (byteL s) he 63 = true → R = .ok (u, h, 0, he) from fun h => RE2.out 0 he (by rw [PO2.out, if_neg (fun hh => by rw [hh.2.2] at h; cases h)]))
      have HNO := kd (show decide (s.size ≤ he) = false → seesB (byteL s) he 59 = false → seesB (byteL s) he 63 = false → R = .error (he, 5) from fun h1 h2 h3 => RE1.out he 5 (by rw [PO2.out, if_pos ⟨by have := of_decide_eq_false h1; omega, h2, h3⟩]))
      have S59 := kd (fun w wr hh => SE1.out w wr hh 59)
      have S63 := kd (fun w wr hh => SE1.out w wr hh 63)
      clear PO2 RE1 RE2 SE1
      generalize decide (s.size ≤ he) = de at *
      generalize seesB (byteL s) he 59 = s59 at *
      generalize seesB (byteL s) he 63 = s63 at *
      cases de with
      | true =>
        have E := kd (HEq.out rfl)
        clear HEq H59 H63 HNO S59 S63
        go_wp2_with fail
        exact GOOD.out _ _ _ _ _ E.out M9.out
      | false =>
        go_wp2_with fail
        refine (S59.out _ _ M9.out).mono ?_
        rintro _ _ ⟨rfl, nqa, rfl⟩
        have MA := kd (M9.out.call (below_drewN w9 nqa))
        clear M9 S59 HEq
        generalize w9.drewN nqa = wa at *
        cases s59 with
        | true =>
          have E := kd (H59.out rfl)
          clear H59 H63 HNO S63
          go_wp2_with fail
          exact GOOD.out _ _ _ _ _ E.out MA.out
        | false =>
          go_wp2_with fail
          refine (S63.out _ _ MA.out).mono ?_
          rintro _ _ ⟨rfl, nqb, rfl⟩
          have MB := kd (MA.out.call (below_drewN wa nqb))
          clear MA S63 H59
          generalize wa.drewN nqb = wb at *
          cases s63 with
          | true =>
            have E := kd (H63.out rfl)
            clear H63 HNO
            go_wp2_with fail
            exact GOOD.out _ _ _ _ _ E.out MB.out
          | false =>
            have E := kd (show R = .error (he, 5) by have h := HNO.out; simpa using h)
            clear H63 HNO
            have k1 : wb.cell? ⟨cb, 1, none⟩ = some (.int .i64 he) := (mine_c MB.out).cell 1
            go_wp2_with fail
            exact BAD.out _ _ _ _ _ E.out MB.out (by decide)

theorem cut_sum (c : Int) : ∀ s : List Int, ((cutL c s).map (fun p => p.length + 1)).sum = s.length + 1
  | [] => rfl
  | d :: r => by
    have ih := cut_sum c r
    by_cases h : d = c
    · subst h
      rw [cutL_hit]
      simp only [List.map_cons, List.sum_cons, List.length_nil, List.length_cons]
      omega
    · rw [cutL_no c d r h]
      cases hq : cutL c r with
      | nil => rw [hq] at ih; simp at ih
      | cons q qs =>
        rw [hq] at ih
        simp only [glue, List.map_cons, List.sum_cons, List.length_append, List.length_cons, List.length_nil] at ih ⊢
        omega
theorem sum_le {l : List (List Int)} {k : Nat} (h : ∀ p ∈ l, p.length ≤ k) : (l.map (fun p => p.length + 1)).sum ≤ (k + 1) * l.length := by
  induction l with
  | nil => simp
  | cons p l ih =>
    have h1 := h p (by simp)
    have h2 := ih fun q hq => h q (List.mem_cons_of_mem _ hq)
    simp only [List.map_cons, List.sum_cons, List.length_cons, Nat.mul_add, Nat.mul_one]
    omega
def rnum (n : List Int) : Bool := (decide (1 ≤ n.length) && decide (n.length ≤ 3)) && ((!(decide (1 < n.length) && n.getD 0 0 == 48)) && (n.all isDig && decide (valL n ≤ 255)))
theorem dec1 {a : Int} (h : isDig a = true) : decL (a - 48) = [a] := by
  unfold isDig at h
  rw [Bool.and_eq_true, decide_eq_true_iff, decide_eq_true_iff] at h
  obtain ⟨n, hn⟩ : ∃ n : Nat, a = 48 + (n : Int) := ⟨(a - 48).toNat, by omega⟩
  subst hn
  rw [show (48 + (n : Int) - 48) = (n : Int) by omega, dd_small (by omega)]
theorem dec_snoc {v b : Int} (hv : 1 ≤ v) (h : isDig b = true) : decL (10 * v + (b - 48)) = decL v ++ [b] := by
  unfold isDig at h
  rw [Bool.and_eq_true, decide_eq_true_iff, decide_eq_true_iff] at h
  obtain ⟨n, hn⟩ : ∃ n : Nat, v = (n : Int) := ⟨v.toNat, by omega⟩
  obtain ⟨m, hm⟩ : ∃ m : Nat, b = 48 + (m : Int) := ⟨(b - 48).toNat, by omega⟩
  subst hn; subst hm
  rw [show (10 * (n : Int) + (48 + (m : Int) - 48)) = ((10 * n + m : Nat) : Int) by omega, dd_big (by omega), show (10 * n + m) / 10 = n by omega, show (10 * n + m) % 10 = m by omega]
theorem dec_lead {v : Nat} (h : v ≤ 255) : (decL (v : Int)).length ≤ 3 ∧ (1 < (decL (v : Int)).length → (decL (v : Int)).getD 0 0 ≠ 48) := by
  refine ⟨dec_len v 2 (by omega), ?_⟩
  by_cases h1 : v < 10
  · rw [dd_small h1]; simp
  · rw [dd_big h1]
    by_cases h2 : v / 10 < 10
    · rw [dd_small h2]
      intro _
      show (48 + ((v / 10 : Nat) : Int)) ≠ 48
      omega
    · rw [dd_big h2]
      have h3 : v / 10 / 10 < 10 := by omega
      rw [dd_small h3]
      intro _
      show (48 + ((v / 10 / 10 : Nat) : Int)) ≠ 48
      omega
theorem numOK_iff {n : List Int} : numOK n = true ↔ (n.all isDig = true ∧ n ≠ []) ∧ (valL n ≤ 255 ∧ n = decL (valL n)) := by
  unfold numOK
  simp only [Bool.and_eq_true, decide_eq_true_eq, beq_iff_eq, Bool.not_eq_true', List.isEmpty_eq_false_iff]
theorem rnum_iff {n : List Int} : rnum n = true ↔ (1 ≤ n.length ∧ n.length ≤ 3) ∧ (¬ (1 < n.length ∧ n.getD 0 0 = 48) ∧ (n.all isDig = true ∧ valL n ≤ 255)) := by
  unfold rnum
  simp only [Bool.and_eq_true, decide_eq_true_eq, Bool.not_eq_true', Bool.and_eq_false_iff, decide_eq_false_iff_not, beq_eq_false_iff_ne, beq_iff_eq]
  constructor
  · rintro ⟨h, h2, h3⟩; exact ⟨h, (fun h4 => by rcases h2 with h2 | h2; exact h2 h4.1; exact h2 h4.2), h3⟩
  · rintro ⟨h, h2, h3⟩; exact ⟨h, (by by_cases h4 : 1 < n.length; right; exact fun h5 => h2 ⟨h4, h5⟩; left; exact h4), h3⟩
theorem rnum_eq (n : List Int) : rnum n = numOK n := by
  rw [Bool.eq_iff_iff, rnum_iff, numOK_iff]
  constructor
  · rintro ⟨⟨h1, h2⟩, h3, h4, h5⟩
    refine ⟨⟨h4, by rintro rfl; simp at h1⟩, h5, ?_⟩
    match n, h1, h2, h3, h4 with
    | [a], _, _, _, h4 =>
      have ha : isDig a = true := by simpa using h4
      rw [show valL [a] = a - 48 by simp [valL], dec1 ha]
    | [a, b], _, _, h3, h4 =>
      have ha : isDig a = true ∧ isDig b = true := by simpa using h4
      have h0 : a ≠ 48 := fun e => h3 ⟨by simp, e⟩
      have h9 := ha.1
      unfold isDig at h9
      rw [Bool.and_eq_true, decide_eq_true_iff, decide_eq_true_iff] at h9
      rw [show valL [a, b] = 10 * (a - 48) + (b - 48) by simp [valL], dec_snoc (by omega) ha.2, dec1 ha.1]; rfl
    | [a, b, c], _, _, h3, h4 =>
      have ha : isDig a = true ∧ isDig b = true ∧ isDig c = true := by simpa using h4
      have h0 : a ≠ 48 := fun e => h3 ⟨by simp, e⟩
      have h9 := ha.1
      have h8 := ha.2.1
      unfold isDig at h9 h8
      rw [Bool.and_eq_true, decide_eq_true_iff, decide_eq_true_iff] at h9 h8
      rw [show valL [a, b, c] = 10 * (10 * (a - 48) + (b - 48)) + (c - 48) by simp [valL], dec_snoc (by omega) ha.2.2, dec_snoc (by omega) ha.2.1, dec1 ha.1]; rfl
    | [], h1, _, _, _ => simp at h1
    | a :: b :: c :: d :: e, _, h2, _, _ => simp at h2
  · rintro ⟨⟨h1, h2⟩, h3, h4⟩
    obtain ⟨v, hv⟩ : ∃ v : Nat, valL n = (v : Int) := ⟨(valL n).toNat, by have := (valL_range n h1).1; omega⟩
    rw [hv] at h4 h3
    obtain ⟨h5, h6⟩ := dec_lead (v := v) (by omega)
    rw [← h4] at h5 h6
    exact ⟨⟨by cases n with | nil => exact absurd rfl h2 | cons _ _ => simp, h5⟩, (fun h7 => h6 h7.1 h7.2), h1, by omega⟩
def rhostD (s : List Int) : Option (List Int) := if (cutL 46 s).all labOK = true ∧ s.length ≤ 255 ∧ ((cutL 46 s).any wordL = true ∨ ((cutL 46 s).length = 4 ∧ (cutL 46 s).all rnum = true)) then some (lowS s) else none
theorem dig_lab {p : List Int} (h : numOK p = true) : labOK p = true := by
  have h2 := h
  rw [← rnum_eq, rnum_iff] at h2
  obtain ⟨⟨h1, h2⟩, _, h3, _⟩ := h2
  have key : ∀ c ∈ p, isDig c = true := List.all_eq_true.1 h3
  have k45 : ∀ i, i < p.length → p.getD i 0 ≠ 45 := fun i hi e => by
    have := key _ (getD_mem hi)
    rw [e] at this
    exact absurd this (by decide)
  unfold labOK
  simp only [Bool.and_eq_true, decide_eq_true_eq, bne_iff_ne]
  refine ⟨⟨h1, by omega⟩, ⟨k45 0 (by omega), k45 _ (by omega)⟩, List.all_eq_true.2 fun c hc => ?_⟩
  unfold labC
  rw [key c hc]; simp
theorem numbers_len {s : List Int} (h : (cutL 46 s).all numOK = true) (h4 : (cutL 46 s).length = 4) : s.length ≤ 15 := by
  have h1 := cut_sum 46 s
  have h2 : ∀ p ∈ cutL 46 s, p.length ≤ 3 := fun p hp => by
    have := List.all_eq_true.1 h p hp
    rw [← rnum_eq, rnum_iff] at this
    exact this.1.2
  have h3 := sum_le h2
  rw [h4] at h3
  omega
theorem numbers_low {s : List Int} (h : (cutL 46 s).all numOK = true) : lowS s = s := by
  unfold lowS
  refine (List.map_congr_left fun c hc => ?_).trans (List.map_id s)
  have : c < 65 := by
    rcases cut_mem 46 hc with rfl | ⟨p, hp, hc⟩
    · decide
    · have h1 := List.all_eq_true.1 h p hp
      rw [numOK_iff] at h1
      have h2 := List.all_eq_true.1 h1.1.1 c hc
      unfold isDig at h2
      rw [Bool.and_eq_true, decide_eq_true_iff, decide_eq_true_iff] at h2
      omega
  unfold lowC
  rw [if_neg (by omega)]; rfl
theorem rhostD_eq (s : List Int) : rhostD s = if numbersL s = true then some s else if namedL s = true then some (lowS s) else none := by
  have hr : (cutL 46 s).all rnum = (cutL 46 s).all numOK := by congr 1; funext n; exact rnum_eq n
  unfold rhostD
  rw [hr]
  have hN : numbersL s = true ↔ s.length ≤ 15 ∧ (cutL 46 s).all numOK = true ∧ (cutL 46 s).length = 4 := by
    unfold numbersL; simp only [Bool.and_eq_true, decide_eq_true_eq]
  have hM : namedL s = true ↔ (1 ≤ s.length ∧ s.length ≤ 255) ∧ (cutL 46 s).all labOK = true ∧ (cutL 46 s).any wordL = true := by
    unfold namedL; simp only [Bool.and_eq_true, decide_eq_true_eq]
  by_cases h1 : numbersL s = true
  · rw [if_pos h1]
    obtain ⟨a, b, c⟩ := hN.1 h1
    rw [if_pos, numbers_low b]
    refine ⟨List.all_eq_true.2 fun p hp => dig_lab (List.all_eq_true.1 b p hp), by omega, .inr ⟨c, b⟩⟩
  · rw [if_neg h1]
    by_cases h2 : namedL s = true
    · obtain ⟨a, b, c⟩ := hM.1 h2
      rw [if_pos h2, if_pos ⟨b, a.2, .inl c⟩]
    · rw [if_neg h2, if_neg]
      rintro ⟨a, b, c | ⟨c, d⟩⟩
      · refine h2 (hM.2 ⟨⟨?_, b⟩, a, c⟩)
        cases s with
        | nil => exact absurd a (by decide)
        | cons _ _ => simp
      · exact h1 (hN.2 ⟨numbers_len d c, d, c⟩)
def rstrip : List Int → List Int
  | [] => []
  | [c] => [c]
  | c :: d :: r => if c = 48 then rstrip (d :: r) else c :: d :: r
theorem low48 {c : Int} : (lowC c == 48) = (c == 48) := by
  unfold lowC
  rw [Bool.eq_iff_iff, beq_iff_eq, beq_iff_eq]
  split <;> omega
theorem grpN_eq (g : List Int) : grpN g = if (lowS g).dropWhile (· == 48) = [] then [48] else (lowS g).dropWhile (· == 48) := rfl
theorem low_keep {c : Int} (r : List Int) (h : c ≠ 48) : (lowS (c :: r)).dropWhile (· == 48) = lowS (c :: r) := by
  have h2 : (lowC c == 48) = false := by rw [low48]; simpa using h
  rw [show lowS (c :: r) = lowC c :: lowS r from rfl, List.dropWhile_cons, h2]
  rfl
theorem rstrip_eq : ∀ {g : List Int}, g ≠ [] → lowS (rstrip g) = grpN g
  | [], h => absurd rfl h
  | [c], _ => by
    unfold rstrip
    by_cases h : c = 48
    · subst h; rfl
    · rw [grpN_eq, low_keep [] h]; rfl
  | c :: d :: r, _ => by
    unfold rstrip
    by_cases h : c = 48
    · subst h
      rw [if_pos rfl, rstrip_eq (by simp), grpN_eq, grpN_eq, show (lowS (48 :: d :: r)).dropWhile (· == 48) = (lowS (d :: r)).dropWhile (· == 48) from rfl]
    · rw [if_neg h, grpN_eq, low_keep _ h]; rfl
def rsixL (s : List Int) : Option (List Int) :=
  match dblL s with
  | some p => (match sideL p.1, sideL p.2 with
    | some x, some y => if 7 < x.length + y.length then none else some (joinL [58] x ++ [58, 58] ++ joinL [58] y)
    | _, _ => none)
  | none => match sideL s with
    | some l => if l.length = 8 then some (joinL [58] l) else none
    | none => none
theorem side_len {s : List Int} {x : List (List Int)} (h : sideL s = some x) : s.length + 1 ≤ 5 * x.length + 1 := by
  unfold sideL at h
  split at h
  · rename_i h0; injection h with h; subst h; subst h0; simp
  · unfold grpL at h
    split at h
    · rename_i h1
      injection h with h
      subst h
      rw [List.length_map]
      have h2 : ∀ p ∈ cutL 58 s, p.length ≤ 4 := fun p hp => (grpOK_iff.1 (List.all_eq_true.1 h1 p hp)).1.2
      have h3 := sum_le h2
      rw [cut_sum] at h3
      omega
    · cases h
theorem dbl_len : ∀ {s : List Int} {p : List Int × List Int}, dblL s = some p → p.1.length + p.2.length + 2 = s.length
  | [], _, h => by cases h
  | [_], _, h => by cases h
  | c :: d :: r, p, h => by
    unfold dblL at h
    split at h
    · injection h with h; subst h; simp
    · cases hq : dblL (d :: r) with
      | none => rw [hq] at h; cases h
      | some q =>
        rw [hq] at h
        injection h with h
        subst h
        have := dbl_len hq
        simp only [List.length_cons] at this ⊢
        omega
theorem rsixL_eq (s : List Int) : rsixL s = groupsL s := by
  unfold rsixL groupsL
  cases hd : dblL s with
  | some p =>
    dsimp only
    by_cases h39 : 39 < s.length
    · rw [if_pos h39]
      cases hx : sideL p.1 with
      | none => rfl
      | some x =>
        cases hy : sideL p.2 with
        | none => rfl
        | some y =>
          dsimp only
          have h1 := side_len hx
          have h2 := side_len hy
          have h3 := dbl_len hd
          rw [if_pos (by omega)]
    · rw [if_neg h39]
      cases sideL p.1 <;> rfl
  | none =>
    dsimp only
    by_cases h0 : s = []
    · subst h0; rfl
    · have hs : sideL s = grpL s := if_neg h0
      by_cases h39 : 39 < s.length
      · rw [if_pos h39]
        cases hl : sideL s with
        | none => rfl
        | some l =>
          have h1 := side_len hl
          dsimp only
          by_cases h8 : l.length = 8
          · -- eight groups: at most 39 characters
            exfalso
            rw [hs] at hl
            unfold grpL at hl
            split at hl
            · rename_i h2
              injection hl with hl
              subst hl
              rw [List.length_map] at h8
              have h3 : ∀ p ∈ cutL 58 s, p.length ≤ 4 := fun p hp => (grpOK_iff.1 (List.all_eq_true.1 h2 p hp)).1.2
              have h4 := sum_le h3
              rw [cut_sum, h8] at h4
              omega
            · cases hl
          · rw [if_neg h8]
      · rw [if_neg h39, hs]; rfl
def rhostL (s : List Int) : Option (List Int) := if 2 ≤ s.length ∧ s.getD 0 0 = 91 ∧ s.getD (s.length - 1) 0 = 93 then (rsixL (subL s 1 (s.length - 1))).map fun g => [91] ++ g ++ [93] else rhostD s
theorem rhostL_eq (s : List Int) : rhostL s = hostL s := by
  unfold rhostL hostL
  rw [rsixL_eq, rhostD_eq]
end Go.Proofs.YthfonniieaiocaaGreatDoor
