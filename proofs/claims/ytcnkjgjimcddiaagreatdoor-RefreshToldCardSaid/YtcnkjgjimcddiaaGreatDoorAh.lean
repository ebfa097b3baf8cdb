/- Contract: the cursor's listed, where the text has no bracket. -/
import Derived.Test.YtcnkjgjimcddiaaGreatDoorAd
import Derived.Test.YtcnkjgjimcddiaaGreatDoorCr
namespace Go.Proofs.YtcnkjgjimcddiaaGreatDoor
open Go.RowKit

theorem sizePm (a b c : Value) : (Tryz.prog.info? 84).map (·.size) = some [a, b, c].length := show (Tryz.prog.info? 84).map (·.size) = some 3 by kernel_rfl
theorem lenPm (a b c d e f : Value) : [a, b, c].length = [d, e, f].length := rfl
theorem pm_one (a b : ByteArray) (c : Bool) : ∀ u ∈ [Value.string a, .string b, .bool c], u.oneCell' = true := fun u hu => by
  simp at hu
  rcases hu with rfl | rfl | rfl <;> rfl
theorem wpList_storeG {P : Program} {ops : Array Oper} {rest : List Oper} {op : Oper} {a : Act} {w : World} {Q : Exit → Act → World → Prop} (hgd : op.guard = none) (ty : TypeId) (x y : Operand) (ho : op.op = .store ty x y) {b : Nat} {T : TypeId} {vs : List Value} (hr : Row w b T vs) (us : List Value)
    (hx : a.eval x = .pointer (some ⟨b, 0, none⟩)) (hy : a.eval y = .agg us.toArray) (hl : vs.length = us.length) (hi : (P.info? ty).map (·.size) = some us.length) (h1 : ∀ u ∈ us, u.oneCell' = true)
    (h : ∀ w', Hid (Row w' b T us) → Hid (w.grownBy w' (some b)) → wpList P ops Q rest (a.put op.dst undef) w') : wpList P ops Q (op :: rest) a w :=
  wpList_storeR (W0 := { w with heap := #[] }) hgd ty x y ho hr us hx hy hl hi h1 ⟨rfl, rfl, rfl, Nat.zero_le _, fun k hk => absurd hk (by simp)⟩ (Nat.zero_le _)
    fun w' k1 k2 k3 => h w' k1 (Lib.hid ⟨k2.out.os, k2.out.tape, k2.out.output, Nat.le_of_eq k3.out.1.symm, fun k _ hn => k3.out.2 k (fun e => hn (by rw [e]))⟩)
theorem results_cuv {fn : Func} {t u v : Tmp} {ty : TypeId} (h : fn.results = #[.cell t ty, .tmp u, .tmp v]) (tmps : Array Value) (P : Program) (w : World) (b : Nat) (cs : List Value) (d : TypeDesc)
    (ht : tmps.getD t undef = .pointer (some ⟨b, 0, none⟩)) (hc : w.rangeAt b 0 cs) (hu : P.underlying ty = some d) (hd : d.isRow = true) (hi : (P.info? ty).map (·.size) = some cs.length) :
    (results fn tmps).run P w = .ok (.tuple #[.agg cs.toArray, tmps.getD u undef, tmps.getD v undef]) w := by
  have hl := run_loadVar_mid (P := P) w b 0 ty cs d hc hu hd hi
  simp only [results, h]
  simp [-Array.getD_eq_getD_getElem?, ht, asAddr, hl]
/-- What the walk keeps: the cursor, the result's block, the parameter's block. -/
structure LM (w : World) (b : Nat) (s : ByteArray) (a rb pb : Nat) (zs ps : List Value) (w' : World) : Prop where
  c : CG w b s a w'
  rr : Row w' rb 84 zs
  rp : Row w' pb 84 ps
  g1 : w.heap.size ≤ rb
  g2 : w.heap.size ≤ pb
  ne : rb ≠ pb
  lt : b < w.heap.size
section
variable {w w1 w2 : World} {b a a' rb pb : Nat} {s : ByteArray} {zs ps us : List Value}
theorem LM.call (h : LM w b s a rb pb zs ps w1) (hb : Below w1.heap.size w1 w2) : LM w b s a rb pb zs ps w2 := ⟨h.c.call hb, h.rr.below hb, h.rp.below hb, h.g1, h.g2, h.ne, h.lt⟩
theorem LM.cur (h : LM w b s a rb pb zs ps w1) (hg : CG w1 b s a' w2) : LM w b s a' rb pb zs ps w2 :=
  ⟨h.c.trans hg, h.rr.heap (hg.g.block rb h.rr.lt (fun e => by injection e with e; have := h.g1; have := h.lt; omega)), h.rp.heap (hg.g.block pb h.rp.lt (fun e => by injection e with e; have := h.g2; have := h.lt; omega)), h.g1, h.g2, h.ne, h.lt⟩
theorem LM.cset (h : LM w b s a rb pb zs ps w1) (a' : Nat) {z : Int} (hz : z = a') : LM w b s a' rb pb zs ps (w1.setCell ⟨b, 1, none⟩ (.int .i64 z)) := h.cur ((CG.refl h.c.r).set a' hz)
theorem LM.putp (h : LM w b s a rb pb zs ps w1) (hr : Row w2 pb 84 us) (hg : w1.grownBy w2 (some pb)) : LM w b s a rb pb zs us w2 :=
  ⟨⟨h.c.r.heap (hg.block b h.c.r.lt (fun e => by injection e with e; have := h.g2; have := h.lt; omega)), h.c.g.andThen hg (fun j hj => by injection hj with hj; subst hj; exact .inl h.g2)⟩, h.rr.heap (hg.block rb h.rr.lt (fun e => h.ne (by injection e))), hr, h.g1, h.g2, h.ne, h.lt⟩
theorem LM.putr (h : LM w b s a rb pb zs ps w1) (hr : Row w2 rb 84 us) (hg : w1.grownBy w2 (some rb)) : LM w b s a rb pb us ps w2 :=
  ⟨⟨h.c.r.heap (hg.block b h.c.r.lt (fun e => by injection e with e; have := h.g1; have := h.lt; omega)), h.c.g.andThen hg (fun j hj => by injection hj with hj; subst hj; exact .inl h.g1)⟩, hr, h.rp.heap (hg.block pb h.rp.lt (fun e => h.ne (by injection e with e; exact e.symm))), h.g1, h.g2, h.ne, h.lt⟩
theorem LM.pset (h : LM w b s a rb pb zs ps w1) (i : Nat) (u : Value) : LM w b s a rb pb zs (ps.set i u) (w1.setCell ⟨pb, i, none⟩ u) := h.putp (h.rp.set i u) (grown_cell u (grown_id _ _))
end
theorem listedL_eq {X : List Int} {a e1 a1 a2 e3 : Nat} (h1 : skipTo isTok X a = e1) (h2 : skipTo isBlank X e1 = a1) (h3 : skipTo isBlank X (a1 + 1) = a2) (h4 : skipTo isTok X a2 = e3) :
    listedL X a = if e1 = a then .error (e1, 5) else
      if ¬ (a1 < X.length ∧ X.getD a1 0 = 61) then .ok (⟨lowS (subL X a e1), [], false⟩, a1) else
      if a2 < X.length ∧ X.getD a2 0 = 34 then (if (unq X (a2 : Nat)).2.2 ≠ 0 then .error ((unq X (a2 : Nat)).2.1, (unq X (a2 : Nat)).2.2) else .ok (⟨lowS (subL X a e1), (unq X (a2 : Nat)).1, true⟩, (unq X (a2 : Nat)).2.1)) else
      if e3 = a2 then .error (a2, 5) else .ok (⟨lowS (subL X a e1), subL X a2 e3, true⟩, e3) := by
  subst h1; subst h2; subst h3; subst h4; rfl
theorem setCell_id {w : World} {b i : Nat} {T : TypeId} {vs : List Value} {v : Value} (h : Row w b T vs) (hv : vs[i]? = some v) : w.setCell ⟨b, i, none⟩ v = w := by
  have he : (w.setCell ⟨b, i, none⟩ v).heap = w.heap := by
    refine Array.ext_getElem? fun k => ?_
    by_cases hk : k = b
    · subst hk
      have h2 := h.set i v
      obtain ⟨hl, rfl⟩ := List.getElem?_eq_some_iff.1 hv
      rw [List.set_getElem_self hl] at h2
      exact h2.trans h.symm
    · exact Below.heap_setCell w ⟨b, i, none⟩ v k hk
  have hw : w.setCell ⟨b, i, none⟩ v = { w with heap := (w.setCell ⟨b, i, none⟩ v).heap } := rfl
  rw [hw, he]
theorem setCells_id {w : World} {b : Nat} {T : TypeId} {vs : List Value} (h : Row w b T vs) : ∀ (us : List Value) (o : Nat), (∀ j u, us[j]? = some u → vs[o + j]? = some u) → w.setCells b o us = w
  | [], _, _ => rfl
  | u :: us, o, hu => by
    show (w.setCell ⟨b, o, none⟩ u).setCells b (o + 1) us = w
    rw [setCell_id (i := o) h (by simpa using hu 0 u rfl)]
    exact setCells_id h us (o + 1) (fun j x hx => by rw [Nat.add_assoc, Nat.add_comm 1 j]; exact hu (j + 1) x hx)
/-- A store of what lies there is quiet. -/
theorem quiet_same {P : Program} {o : Oper} {a : Act} {w : World} {K : Act → Prop} (ty : TypeId) (x y : Operand) (ho : o.op = .store ty x y) {b : Nat} {T : TypeId} (vs : List Value) (hr : Row w b T vs) (hx : a.eval x = .pointer (some ⟨b, 0, none⟩)) (hy : a.eval y = .agg vs.toArray)
    (hi : (P.info? ty).map (·.size) = some vs.length) (h1 : ∀ u ∈ vs, u.oneCell' = true) (h : K (a.put o.dst undef)) : o.quiet P a (fun w' => ∃ y : BW w, w' = y.w) K :=
  ⟨undef, fun w' ⟨z, hz⟩ => by
    subst hz
    have hR := hr.below z.h
    have hs : vs.toArray.size = vs.length := by simp
    unfold Oper.quietAt execOp
    simp only [ho, hx, hy, Instr.storeAt, Instr.sureAddr, Sem.run_bind, Sem.run_pure, Result.andThen_ok, run_storeVar_mid z.w b 0 ty vs.toArray (by rw [hs]; exact hR.there) (by rw [hs]; exact hi) (all_oneCell_toArray h1)]
    rw [setCells_id hR vs 0 (fun j u hu => by rw [Nat.zero_add]; exact hu)]
    exact ⟨rfl, rfl⟩, h⟩
def ListP (w : World) (b : Nat) (s : ByteArray) (R : Except (Nat × Int) (Pm × Nat)) (e : Ending) (w' : World) : Prop := match R with
  | .error q => e = .returned (.tuple #[.agg #[.string ⟨#[]⟩, .string ⟨#[]⟩, .bool false], .int .i64 (q.1 : Nat), .int .u8 q.2]) ∧ ∃ a', CG w b s a' w'
  | .ok q => e = .returned (.tuple #[.agg #[.string (strOfNums q.1.n), .string (strOfNums q.1.v), .bool q.1.h], .int .i64 0, .int .u8 0]) ∧ CG w b s q.2 w'
theorem ListP.bad {w w' : World} {b a' z : Nat} {k : Int} {s : ByteArray} {R : Except (Nat × Int) (Pm × Nat)} (h : R = .error (z, k)) (hc : CG w b s a' w') : ListP w b s R (.returned (.tuple #[.agg #[.string ⟨#[]⟩, .string ⟨#[]⟩, .bool false], .int .i64 (z : Nat), .int .u8 k])) w' := by
  subst h; exact ⟨rfl, a', hc⟩
theorem ListP.good {w w' : World} {b a' : Nat} {n v : List Int} {h : Bool} {s : ByteArray} {R : Except (Nat × Int) (Pm × Nat)} (hR : R = .ok (⟨n, v, h⟩, a')) (hc : CG w b s a' w') : ListP w b s R (.returned (.tuple #[.agg #[.string (strOfNums n), .string (strOfNums v), .bool h], .int .i64 0, .int .u8 0])) w' := by
  subst hR; exact ⟨rfl, hc⟩
theorem empty_beq (l : List Int) : ((strOfNums l).toList == ([] : List UInt8)) = l.isEmpty := by
  cases l with
  | nil => rw [show (strOfNums []) = ⟨#[]⟩ from rfl, List.isEmpty_nil, beq_iff_eq, toList_nil]
  | cons x l =>
    rw [List.isEmpty_cons, beq_eq_false_iff_ne, Ne, toList_nil]
    intro h
    have := congrArg ByteArray.size h
    rw [num_size, List.length_cons, show (ByteArray.mk #[]).size = 0 from rfl] at this
    omega
theorem subL_empty {X : List Int} {a b : Nat} (h : b ≤ X.length) (hab : a ≤ b) : (subL X a b).isEmpty = decide (b = a) := by
  rw [Bool.eq_iff_iff, List.isEmpty_iff, ← List.length_eq_zero_iff, subL_len h]
  simp; omega
theorem lowS_empty (l : List Int) : (lowS l).isEmpty = l.isEmpty := by cases l <;> rfl
theorem seesB_yes {X : List Int} {a : Nat} {c : Int} (h : a < X.length ∧ X.getD a 0 = c) : seesB X a c = true := by unfold seesB; rw [decide_eq_true h.1, h.2]; simp
theorem seesB_no {X : List Int} {a : Nat} {c : Int} (h : ¬ (a < X.length ∧ X.getD a 0 = c)) : seesB X a c = false := by
  rw [Bool.eq_false_iff]
  unfold seesB
  intro h2
  simp at h2
  exact h ⟨h2.1, by simpa using h2.2⟩
set_option maxRecDepth 100000 in
set_option maxHeartbeats 2000000 in
theorem listed_any (w : World) (b a : Nat) (s : ByteArray) (h : Row w b 113 [.string s, .int .i64 a]) (ha : a ≤ s.size) (hs : s.size ≤ 4000000) (hB : ¬ (91 : Int) ∈ byteL s) :
    Calls Tryz.prog 74 #[.pointer (some ⟨b, 0, none⟩)] w (ListP w b s (listedL (byteL s) a)) := by
  have HL := Lib.hid (byteL_len s)
  have HBY := Lib.hid (byteL_by s)
  have hbl := h.lt
  obtain ⟨e1, he1⟩ : ∃ k, skipTo isTok (byteL s) a = k := ⟨_, rfl⟩
  obtain ⟨a1, ha1⟩ : ∃ k, skipTo isBlank (byteL s) e1 = k := ⟨_, rfl⟩
  obtain ⟨a2, ha2⟩ : ∃ k, skipTo isBlank (byteL s) (a1 + 1) = k := ⟨_, rfl⟩
  obtain ⟨e3, he3⟩ : ∃ k, skipTo isTok (byteL s) a2 = k := ⟨_, rfl⟩
  have LE := Lib.hid (listedL_eq he1 ha1 ha2 he3)
  have ae1 : a ≤ e1 := by rw [← he1]; exact skip_ge _ _ _
  have e1s : e1 ≤ s.size := by rw [← he1, ← byteL_len s]; exact skip_le (by rw [byteL_len]; exact ha)
  have a1s : a1 ≤ s.size := by rw [← ha1, ← byteL_len s]; exact skip_le (by rw [byteL_len]; exact e1s)
  have A2S := Lib.hid (show a1 < s.size → a2 ≤ s.size from fun h => by rw [← ha2, ← byteL_len s]; exact skip_le (by rw [byteL_len]; omega))
  have AE3 := Lib.hid (show a2 ≤ e3 by rw [← he3]; exact skip_ge _ _ _)
  have E3S := Lib.hid (show a2 ≤ s.size → e3 ≤ s.size from fun h => by rw [← he3, ← byteL_len s]; exact skip_le (by rw [byteL_len]; exact h))
  have TE := Lib.hid (show (lowS (subL (byteL s) a e1)).isEmpty = decide (e1 = a) by rw [lowS_empty, subL_empty (by rw [byteL_len]; exact e1s) ae1])
  have TBY := Lib.hid (byteL_str (HBY.out.sub (subL_sub (byteL s) a e1)))
  have TLN := Lib.hid (show (subL (byteL s) a e1).length ≤ 4000000 by rw [subL_len (by rw [byteL_len]; exact e1s)]; omega)
  have TOK := Lib.hid (fun w a e h1 h2 (h3 : skipTo isTok (byteL s) a = e) => show Calls Tryz.prog 98 #[.pointer (some ⟨b, 0, none⟩)] w fun r w' => r = .returned (.string (strOfNums (subL (byteL s) a e))) ∧ CG w b s e w' by subst h3; exact curtoken_any w b a s h1 h2 hs)
  have BLK := Lib.hid (fun w a e h1 h2 (h3 : skipTo isBlank (byteL s) a = e) => show Calls Tryz.prog 71 #[.pointer (some ⟨b, 0, none⟩)] w fun r w' => r = .returned (.tuple #[]) ∧ CG w b s e w' by subst h3; exact curblanks_any w b a s h1 h2 hs)
  have SEE := Lib.hid (fun w a c h1 => cursees_any w b a c s h1)
  have UNQ := Lib.hid (fun (i : Nat) U w h1 h2 => unquote_b s i U w h1 h2 hs)
  have VE := Lib.hid (fun (hv : a2 ≤ s.size) => show (subL (byteL s) a2 e3).isEmpty = decide (e3 = a2) from subL_empty (by rw [byteL_len]; exact E3S.out hv) AE3.out)
  have HE1 := Lib.hid he1; have HA1 := Lib.hid ha1; have HA2 := Lib.hid ha2; have HE3 := Lib.hid he3
  clear he1 ha1 ha2 he3
  have HNB := Lib.hid hB
  clear hB
  have RC := Lib.hid h
  clear h
  generalize listedL (byteL s) a = R at *
  generalize byteL s = X at *
  have R0 := Lib.hid (Row.new w 84 [.string ⟨#[]⟩, .string ⟨#[]⟩, .bool false])
  have B0 := Lib.hid ((Below.refl w.heap.size w).alloc (Nat.le_refl _) (.cells #[.string ⟨#[]⟩, .string ⟨#[]⟩, .bool false] 84))
  go_enter Tryz.func74, Tryz.ntmps74
  go_wp2_with fail
  generalize w.alloc (.cells #[.string ⟨#[]⟩, .string ⟨#[]⟩, .bool false] 84) = W0 at *
  refine (TOK.out W0 a e1 (RC.out.below B0.out) ha HE1.out).mono ?_
  rintro e w1 ⟨rfl, hc⟩
  have C1 := Lib.hid (((CG.refl RC.out).call B0.out).trans hc)
  have R1 := Lib.hid (R0.out.heap (hc.g.block w.heap.size R0.out.lt (fun e => by injection e; omega)))
  clear hc R0 B0
  go_wp2_with fail
  refine (adlower_any _ _ (by rw [num_size]; exact TLN.out)).mono ?_
  rintro e w2 ⟨rfl, hb⟩
  rw [TBY.out]
  have C2 := Lib.hid (C1.out.call hb)
  have R2 := Lib.hid (R1.out.below hb)
  clear hb C1 R1
  obtain ⟨nm, hnm⟩ : ∃ nm, lowS (subL X a e1) = nm := ⟨_, rfl⟩
  rw [hnm] at TE LE ⊢
  have NE := Lib.hid (empty_beq nm)
  rw [TE.out] at NE
  clear hnm TE TBY TLN
  go_upto_region 2 with (fail)
  have BN := Lib.hid ((Below.refl w2.heap.size w2).alloc (Nat.le_refl _) (.cells #[.string (strOfNums nm), .string ⟨#[]⟩, .bool false] 84))
  have L3 := Lib.hid (show LM w b s e1 w.heap.size w2.heap.size [.string ⟨#[]⟩, .string ⟨#[]⟩, .bool false] [.string (strOfNums nm), .string ⟨#[]⟩, .bool false] (w2.alloc (.cells #[.string (strOfNums nm), .string ⟨#[]⟩, .bool false] 84)) from ⟨C2.out.call BN.out, R2.out.alloc _, Row.new w2 84 [.string (strOfNums nm), .string ⟨#[]⟩, .bool false], Nat.le_refl _, C2.out.g.size, Nat.ne_of_lt R2.out.lt, hbl⟩)
  generalize w2.alloc (.cells #[.string (strOfNums nm), .string ⟨#[]⟩, .bool false] 84) = w3 at *
  clear C2 R2 BN
  generalize w2.heap.size = pb at *
  have k0 := L3.out.rp.cell 0
  simp only [List.getElem?_cons_succ, List.getElem?_cons_zero] at k0
  by_cases h0 : e1 = a
  · have hq : ((strOfNums nm).toList == ([] : List UInt8)) = true := NE.out.trans (decide_eq_true h0)
    have E := Lib.hid (LE.out.trans (if_pos h0))
    clear LE NE h0
    go_wp2_with fail
    clear k0 hq
    have q1 := fun x : BW w3 => L3.out.c.r.later x 1
    simp only [List.getElem?_cons_succ, List.getElem?_cons_zero] at q1
    refine region_bw (by kernel_rfl) (by kernel_rfl) ?_
    iterate 5 go_big_quiet_step (fail)
    go_big_quiet_want
    refine quiet_same 84 (.tmp 2) (.tmp 19) rfl [.string ⟨#[]⟩, .string ⟨#[]⟩, .bool false] L3.out.rr rfl rfl (sizePm _ _ _) (pm_one _ _ _) ?_
    simp only [Act.put, List.setIfInBounds_toArray, List.set_cons_zero, List.set_cons_succ]
    go_big_quiet_on
    iterate 2 go_big_quiet_step (fail)
    refine wpQuiet_nil ?_
    rintro _ ⟨x, rfl⟩
    have LX := Lib.hid (L3.out.call x.h)
    have RR := Lib.hid LX.out.rr
    clear q1
    go_wp2_with fail
    exact bodyPost_ret (results_cuv rfl _ _ _ w.heap.size [.string ⟨#[]⟩, .string ⟨#[]⟩, .bool false] _ rfl RR.out.range Tryz.underlying84 rfl (sizePm _ _ _)) rfl (by exact ListP.bad E.out LX.out.c)
  have hq : ((strOfNums nm).toList == ([] : List UInt8)) = false := NE.out.trans (decide_eq_false h0)
  have LE1 := Lib.hid (LE.out.trans (if_neg h0))
  clear LE NE h0
  go_wp2_with fail
  clear k0 hq
  refine (BLK.out w3 e1 a1 L3.out.c.r e1s HA1.out).mono ?_
  rintro e w4 ⟨rfl, hc⟩
  have L4 := Lib.hid (L3.out.cur hc)
  clear hc L3
  go_wp2_with fail
  refine (SEE.out w4 a1 61 L4.out.c.r).mono ?_
  rintro e w5 ⟨rfl, q, rfl⟩
  have L5 := Lib.hid (L4.out.call (below_drewN _ q))
  clear L4
  generalize w4.drewN q = w5 at *
  by_cases h1 : a1 < X.length ∧ X.getD a1 0 = 61
  case neg =>
    rw [seesB_no h1]
    have E := Lib.hid (LE1.out.trans (if_pos h1))
    clear LE1 h1
    go_wp2_with (first
      | (with_reducible refine wpList_loadR rfl 84 (.tmp 5) rfl L5.out.rp rfl Tryz.underlying84 rfl (sizePm _ _ _) ?_)
      | (with_reducible refine wpList_storeG rfl 84 (.tmp 2) (.tmp 29) rfl L5.out.rr [.string (strOfNums nm), .string ⟨#[]⟩, .bool false] rfl rfl (lenPm _ _ _ _ _ _) (sizePm _ _ _) (pm_one _ _ _) ?_))
    intro w9 RR G9
    have CF := Lib.hid ((L5.out.putr RR.out G9.out).c)
    go_wp2_with fail
    exact bodyPost_ret (results_cuv rfl _ _ _ w.heap.size [.string (strOfNums nm), .string ⟨#[]⟩, .bool false] _ rfl RR.out.range Tryz.underlying84 rfl (sizePm _ _ _)) rfl (by exact ListP.good E.out CF.out)
  case pos =>
  rw [seesB_yes h1]
  have LE2 := Lib.hid (LE1.out.trans (if_neg (fun h => h h1)))
  have a1l : a1 < s.size := by rw [← HL.out]; exact h1.1
  have a2s := A2S.out a1l
  clear LE1 h1
  have k1 := L5.out.c.r.cell 1
  simp only [List.getElem?_cons_succ, List.getElem?_cons_zero] at k1
  have f1 := L5.out.c.r.frozen 1
  have L6 := Lib.hid (L5.out.cset (a1 + 1) (z := (a1 : Int) + 1) (by push_cast; rfl))
  go_wp2_with fail
  clear k1 f1 L5
  generalize w5.setCell ⟨b, 1, none⟩ (.int .i64 ((a1 : Int) + 1)) = w6 at *
  refine (BLK.out w6 (a1 + 1) a2 L6.out.c.r a1l HA2.out).mono ?_
  rintro e w7 ⟨rfl, hc⟩
  have L7 := Lib.hid (L6.out.cur hc)
  clear hc L6
  have k2 := L7.out.rp.cell 2
  simp only [List.getElem?_cons_succ, List.getElem?_cons_zero] at k2
  have f2 := L7.out.rp.frozen 2
  have L8 := Lib.hid (show LM w b s a2 w.heap.size pb [.string ⟨#[]⟩, .string ⟨#[]⟩, .bool false] [.string (strOfNums nm), .string ⟨#[]⟩, .bool true] _ from L7.out.pset 2 (.bool true))
  go_wp2_with fail
  clear k2 f2 L7
  generalize w7.setCell ⟨pb, 2, none⟩ (.bool true) = w8 at *
  refine (SEE.out w8 a2 34 L8.out.c.r).mono ?_
  rintro e w9 ⟨rfl, q9, rfl⟩
  have L9 := Lib.hid (L8.out.call (below_drewN _ q9))
  clear L8
  generalize w8.drewN q9 = W9 at *
  by_cases h2 : a2 < X.length ∧ X.getD a2 0 = 34
  case pos =>
    rw [seesB_yes h2]
    have LE3 := Lib.hid (LE2.out.trans (if_pos h2))
    clear LE2 h2
    obtain ⟨U, hU⟩ : ∃ U, unq X (a2 : Nat) = U := ⟨_, rfl⟩
    rw [hU] at LE3
    have HU := Lib.hid hU
    clear hU
    obtain ⟨u1, u2, u3⟩ := U
    dsimp only at LE3
    go_wp2_with fail
    have q0 := fun x : BW W9 => L9.out.c.r.later x 0
    have q1 := fun x : BW W9 => L9.out.c.r.later x 1
    simp only [List.getElem?_cons_succ, List.getElem?_cons_zero] at q0 q1
    refine region_bw (by kernel_rfl) (by kernel_rfl) ?_
    iterate 9 go_big_quiet_step (fail)
    go_big_quiet_step (exact calls_bw (UNQ.out a2 (u1, u2, u3) _ HU.out a2s))
    iterate 7 go_big_quiet_step (fail)
    refine wpQuiet_nil ?_
    rintro _ ⟨x, rfl⟩
    have LX := Lib.hid (L9.out.call x.h)
    clear q0 q1 L9
    generalize x.w = W10 at *
    by_cases h3 : u3 = 0
    · subst h3
      have E := Lib.hid (LE3.out.trans (if_neg (fun h => h rfl)))
      clear LE3
      have k1 := LX.out.rp.cell 1
      simp only [List.getElem?_cons_succ, List.getElem?_cons_zero] at k1
      have f1 := LX.out.rp.frozen 1
      have L11 := Lib.hid (show LM w b s a2 w.heap.size pb [.string ⟨#[]⟩, .string ⟨#[]⟩, .bool false] [.string (strOfNums nm), .string (strOfNums u1), .bool true] _ from LX.out.pset 1 (.string (strOfNums u1)))
      have k3 := L11.out.c.r.cell 1
      simp only [List.getElem?_cons_succ, List.getElem?_cons_zero] at k3
      have f3 := L11.out.c.r.frozen 1
      have L12 := Lib.hid (L11.out.cset u2 rfl)
      clear LX L11
      go_wp2_with (first
        | (with_reducible refine wpList_loadR rfl 84 (.tmp 5) rfl L12.out.rp rfl Tryz.underlying84 rfl (sizePm _ _ _) ?_)
        | (with_reducible refine wpList_storeG rfl 84 (.tmp 2) (.tmp 128) rfl L12.out.rr [.string (strOfNums nm), .string (strOfNums u1), .bool true] rfl rfl (lenPm _ _ _ _ _ _) (sizePm _ _ _) (pm_one _ _ _) ?_))
      intro w9 RR G9
      have CF := Lib.hid ((L12.out.putr RR.out G9.out).c)
      go_wp2_with fail
      exact bodyPost_ret (results_cuv rfl _ _ _ w.heap.size [.string (strOfNums nm), .string (strOfNums u1), .bool true] _ rfl RR.out.range Tryz.underlying84 rfl (sizePm _ _ _)) rfl (by exact ListP.good E.out CF.out)
    · have hb3 : (u3 != 0) = true := by simp only [bne_iff_ne]; exact h3
      have E := Lib.hid (LE3.out.trans (if_pos h3))
      clear LE3 h3
      go_wp2_with (with_reducible refine wpList_storeG rfl 84 (.tmp 2) (.tmp 70) rfl LX.out.rr [.string ⟨#[]⟩, .string ⟨#[]⟩, .bool false] rfl rfl (lenPm _ _ _ _ _ _) (sizePm _ _ _) (pm_one _ _ _) ?_)
      intro w9 RR G9
      have CF := Lib.hid ((LX.out.putr RR.out G9.out).c)
      go_wp2_with fail
      exact bodyPost_ret (results_cuv rfl _ _ _ w.heap.size [.string ⟨#[]⟩, .string ⟨#[]⟩, .bool false] _ rfl RR.out.range Tryz.underlying84 rfl (sizePm _ _ _)) rfl (by exact ListP.bad E.out CF.out)
  case neg =>
  rw [seesB_no h2]
  have LE3 := Lib.hid (LE2.out.trans (if_neg h2))
  clear LE2 h2
  go_wp2_with fail
  refine (SEE.out W9 a2 91 L9.out.c.r).mono ?_
  rintro e wa ⟨rfl, qa, rfl⟩
  have LA := Lib.hid (L9.out.call (below_drewN _ qa))
  clear L9
  generalize W9.drewN qa = WA at *
  rw [seesB_no (X := X) (a := a2) (c := 91) (fun h => HNB.out (by have h3 := getD_mem (l := X) h.1; rw [h.2] at h3; exact h3))]
  go_wp2_with fail
  refine (TOK.out WA a2 e3 LA.out.c.r a2s HE3.out).mono ?_
  rintro e wb ⟨rfl, hc⟩
  have LB := Lib.hid (LA.out.cur hc)
  clear hc LA
  have EB := Lib.hid ((empty_beq (subL X a2 e3)).trans (VE.out a2s))
  generalize subL X a2 e3 = vl at *
  have k1 := LB.out.rp.cell 1
  simp only [List.getElem?_cons_succ, List.getElem?_cons_zero] at k1
  have f1 := LB.out.rp.frozen 1
  have LC := Lib.hid (show LM w b s e3 w.heap.size pb [.string ⟨#[]⟩, .string ⟨#[]⟩, .bool false] [.string (strOfNums nm), .string (strOfNums vl), .bool true] _ from LB.out.pset 1 (.string (strOfNums vl)))
  go_upto_region 11 with (fail)
  clear k1 f1 LB
  generalize wb.setCell ⟨pb, 1, none⟩ (.string (strOfNums vl)) = wc at *
  have k1 := LC.out.rp.cell 1
  simp only [List.getElem?_cons_succ, List.getElem?_cons_zero] at k1
  by_cases h3 : e3 = a2
  · have hq : ((strOfNums vl).toList == ([] : List UInt8)) = true := EB.out.trans (decide_eq_true h3)
    have E := Lib.hid (show R = .error (e3, 5) from (LE3.out.trans (if_pos h3)).trans (by rw [h3]))
    clear LE3 EB h3
    go_wp2_with fail
    clear k1 hq
    have q1 := fun x : BW wc => LC.out.c.r.later x 1
    simp only [List.getElem?_cons_succ, List.getElem?_cons_zero] at q1
    refine region_bw (by kernel_rfl) (by kernel_rfl) ?_
    iterate 5 go_big_quiet_step (fail)
    go_big_quiet_want
    refine quiet_same 84 (.tmp 2) (.tmp 46) rfl [.string ⟨#[]⟩, .string ⟨#[]⟩, .bool false] LC.out.rr rfl rfl (sizePm _ _ _) (pm_one _ _ _) ?_
    simp only [Act.put, List.setIfInBounds_toArray, List.set_cons_zero, List.set_cons_succ]
    go_big_quiet_on
    iterate 2 go_big_quiet_step (fail)
    refine wpQuiet_nil ?_
    rintro _ ⟨x, rfl⟩
    have LX := Lib.hid (LC.out.call x.h)
    have RR := Lib.hid LX.out.rr
    clear q1
    go_wp2_with fail
    exact bodyPost_ret (results_cuv rfl _ _ _ w.heap.size [.string ⟨#[]⟩, .string ⟨#[]⟩, .bool false] _ rfl RR.out.range Tryz.underlying84 rfl (sizePm _ _ _)) rfl (by exact ListP.bad E.out LX.out.c)
  · have hq : ((strOfNums vl).toList == ([] : List UInt8)) = false := EB.out.trans (decide_eq_false h3)
    have E := Lib.hid (LE3.out.trans (if_neg h3))
    clear LE3 EB h3
    go_wp2_with (first
      | (with_reducible refine wpList_loadR rfl 84 (.tmp 5) rfl LC.out.rp rfl Tryz.underlying84 rfl (sizePm _ _ _) ?_)
      | (with_reducible refine wpList_storeG rfl 84 (.tmp 2) (.tmp 128) rfl LC.out.rr [.string (strOfNums nm), .string (strOfNums vl), .bool true] rfl rfl (lenPm _ _ _ _ _ _) (sizePm _ _ _) (pm_one _ _ _) ?_))
    intro w9 RR G9
    have CF := Lib.hid ((LC.out.putr RR.out G9.out).c)
    go_wp2_with fail
    exact bodyPost_ret (results_cuv rfl _ _ _ w.heap.size [.string (strOfNums nm), .string (strOfNums vl), .bool true] _ rfl RR.out.range Tryz.underlying84 rfl (sizePm _ _ _)) rfl (by exact ListP.good E.out CF.out)
end Go.Proofs.YtcnkjgjimcddiaaGreatDoor
