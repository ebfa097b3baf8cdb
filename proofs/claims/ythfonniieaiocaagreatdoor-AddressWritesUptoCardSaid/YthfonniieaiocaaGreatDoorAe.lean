/- Contract: the cursor's listed, where the text has no bracket. And what stands behind it. -/
import Derived.Test.YthfonniieaiocaaGreatDoorAd
import Derived.Test.YthfonniieaiocaaGreatDoorCr
import Derived.Test.YthfonniieaiocaaGreatDoorCc
import Derived.Test.YthfonniieaiocaaGreatDoorCh
set_option linter.unusedVariables false
set_option linter.unusedSimpArgs false
namespace Go.Proofs.YthfonniieaiocaaGreatDoor
open Go.RowKit

theorem sizePm (a b c : Value) : (Tryz.prog.info? 56).map (·.size) = some [a, b, c].length := show (Tryz.prog.info? 56).map (·.size) = some 3 by kernel_rfl
theorem lenPm (a b c d e f : Value) : [a, b, c].length = [d, e, f].length := rfl
theorem pm_one (a b : ByteArray) (c : Bool) : ∀ u ∈ [Value.string a, .string b, .bool c], u.oneCell' = true := fun u hu => by
  simp at hu
  rcases hu with rfl | rfl | rfl <;> rfl
theorem wpList_storeG {P : Program} {ops : Array Oper} {rest : List Oper} {op : Oper} {a : Act} {w : World} {Q : Exit → Act → World → Prop} (hgd : op.guard = none) (ty : TypeId) (x y : Operand) (ho : op.op = .store ty x y) {b : Nat} {T : TypeId} {vs : List Value} (hr : Row w b T vs) (us : List Value)
    (hx : a.eval x = .pointer (some ⟨b, 0, none⟩)) (hy : a.eval y = .agg us.toArray) (hl : vs.length = us.length) (hi : (P.info? ty).map (·.size) = some us.length) (h1 : ∀ u ∈ us, u.oneCell' = true)
    (h : ∀ w', Hid (Row w' b T us) → Hid (w.grownBy w' (some b)) → wpList P ops Q rest (a.put op.dst undef) w') : wpList P ops Q (op :: rest) a w :=
  wpList_storeR (W0 := { w with heap := #[] }) hgd ty x y ho hr us hx hy hl hi h1 ⟨rfl, rfl, rfl, Nat.zero_le _, fun k hk => absurd hk (by simp)⟩ (Nat.zero_le _)
    fun w' k1 k2 k3 => h w' k1 (kd ⟨k2.out.os, k2.out.tape, k2.out.output, Nat.le_of_eq k3.out.1.symm, fun k _ hn => k3.out.2 k (fun e => hn (by rw [e]))⟩)
theorem results_cuv {fn : Func} {t u v : Tmp} {ty : TypeId} (h : fn.results = #[.cell t ty, .tmp u, .tmp v]) (tmps : Array Value) (P : Program) (w : World) (b : Nat) (cs : List Value) (d : TypeDesc)
    (ht : tmps.getD t undef = .pointer (some ⟨b, 0, none⟩)) (hc : w.rangeAt b 0 cs) (hu : P.underlying ty = some d) (hd : d.isRow = true) (hi : (P.info? ty).map (·.size) = some cs.length) :
    (results fn tmps).run P w = .ok (.tuple #[.agg cs.toArray, tmps.getD u undef, tmps.getD v undef]) w := by
  have hl := run_loadVar_mid (P := P) w b 0 ty cs d hc hu hd hi
  simp only [results, h]
  simp [-Array.getD_eq_getD_getElem?, ht, asAddr, hl]
structure LM (w : World) (b : Nat) (s : ByteArray) (a rb pb : Nat) (zs ps : List Value) (w' : World) : Prop where
  c : CG w b s a w'
  rr : Row w' rb 56 zs
  rp : Row w' pb 56 ps
  g1 : w.heap.size ≤ rb
  g2 : w.heap.size ≤ pb
  ne : rb ≠ pb
  lt : b < w.heap.size
section
variable {w w1 w2 : World} {b a a' rb pb : Nat} {s : ByteArray} {zs ps us : List Value}
theorem LM.call (h : LM w b s a rb pb zs ps w1) (hb : Below w1.heap.size w1 w2) : LM w b s a rb pb zs ps w2 := ⟨h.c.call hb, h.rr.below hb, h.rp.below hb, h.g1, h.g2, h.ne, h.lt⟩
theorem LM.cur (h : LM w b s a rb pb zs ps w1) (hg : CG w1 b s a' w2) : LM w b s a' rb pb zs ps w2 :=
  ⟨h.c.trans hg, h.rr.heap (hg.g.block rb h.rr.lt (fun e => by injection e with e; have := h.g1; have := h.lt; omega)), h.rp.heap (hg.g.block pb h.rp.lt (fun e => by injection e with e; have := h.g2; have := h.lt; omega)), h.g1, h.g2, h.ne, h.lt⟩
theorem LM.cset (h : LM w b s a rb pb zs ps w1) (a' : Nat) {z : Int} (hz : z = a') : LM w b s a' rb pb zs ps (w1.setCell ⟨b, 1, none⟩ (.int .i64 z)) := h.cur ((CG.refl h.c.r).set a' hz)
theorem LM.putp (h : LM w b s a rb pb zs ps w1) (hr : Row w2 pb 56 us) (hg : w1.grownBy w2 (some pb)) : LM w b s a rb pb zs us w2 :=
  ⟨⟨h.c.r.heap (hg.block b h.c.r.lt (fun e => by injection e with e; have := h.g2; have := h.lt; omega)), h.c.g.andThen hg (fun j hj => by injection hj with hj; subst hj; exact .inl h.g2)⟩, h.rr.heap (hg.block rb h.rr.lt (fun e => h.ne (by injection e))), hr, h.g1, h.g2, h.ne, h.lt⟩
theorem LM.putr (h : LM w b s a rb pb zs ps w1) (hr : Row w2 rb 56 us) (hg : w1.grownBy w2 (some rb)) : LM w b s a rb pb us ps w2 :=
  ⟨⟨h.c.r.heap (hg.block b h.c.r.lt (fun e => by injection e with e; have := h.g1; have := h.lt; omega)), h.c.g.andThen hg (fun j hj => by injection hj with hj; subst hj; exact .inl h.g1)⟩, hr, h.rp.heap (hg.block pb h.rp.lt (fun e => h.ne (by injection e with e; exact e.symm))), h.g1, h.g2, h.ne, h.lt⟩
theorem LM.pset (h : LM w b s a rb pb zs ps w1) (i : Nat) (u : Value) : LM w b s a rb pb zs (ps.set i u) (w1.setCell ⟨pb, i, none⟩ u) := h.putp (h.rp.set i u) (grown_cell u (grown_id _ _))
end
theorem setCell_id {w : World} {b i : Nat} {T : TypeId} {vs : List Value} {v : Value} (h : Row w b T vs) (hv : vs[i]? = some v) : w.setCell ⟨b, i, none⟩ v = w := by
  have he : (w.setCell ⟨b, i, none⟩ v).heap = w.heap := by
    refine Array.ext_getElem? fun k => ?_
    by_cases hk : k = b
    · subst hk
      have h2 := h.set i v
      obtain ⟨hl, rfl⟩ := List.getElem?_eq_some_iff.1 hv
      rw [List.set_getElem_self hl] at h2
      exact h2.trans h.symm
    · exact Below.heap_setCell w ⟨b, i, none⟩ v k hk
  have hw : w.setCell ⟨b, i, none⟩ v = { w with heap := (w.setCell ⟨b, i, none⟩ v).heap } := rfl
  rw [hw, he]
theorem setCells_id {w : World} {b : Nat} {T : TypeId} {vs : List Value} (h : Row w b T vs) : ∀ (us : List Value) (o : Nat), (∀ j u, us[j]? = some u → vs[o + j]? = some u) → w.setCells b o us = w
  | [], _, _ => rfl
  | u :: us, o, hu => by
    show (w.setCell ⟨b, o, none⟩ u).setCells b (o + 1) us = w
    rw [setCell_id (i := o) h (by simpa using hu 0 u rfl)]
    exact setCells_id h us (o + 1) (fun j x hx => by rw [Nat.add_assoc, Nat.add_comm 1 j]; exact hu (j + 1) x hx)
theorem quiet_same {P : Program} {o : Oper} {a : Act} {w : World} {K : Act → Prop} (ty : TypeId) (x y : Operand) (ho : o.op = .store ty x y) {b : Nat} {T : TypeId} (vs : List Value) (hr : Row w b T vs) (hx : a.eval x = .pointer (some ⟨b, 0, none⟩)) (hy : a.eval y = .agg vs.toArray)
    (hi : (P.info? ty).map (·.size) = some vs.length) (h1 : ∀ u ∈ vs, u.oneCell' = true) (h : K (a.put o.dst undef)) : o.quiet P a (fun w' => ∃ y : BW w, w' = y.w) K :=
  ⟨undef, fun w' ⟨z, hz⟩ => by
    subst hz
    have hR := hr.below z.h
    have hs : vs.toArray.size = vs.length := by simp
    unfold Oper.quietAt execOp
    simp only [ho, hx, hy, Instr.storeAt, Instr.sureAddr, Sem.run_bind, Sem.run_pure, Result.andThen_ok, run_storeVar_mid z.w b 0 ty vs.toArray (by rw [hs]; exact hR.there) (by rw [hs]; exact hi) (all_oneCell_toArray h1)]
    rw [setCells_id hR vs 0 (fun j u hu => by rw [Nat.zero_add]; exact hu)]
    exact ⟨rfl, rfl⟩, h⟩
def ListP (w : World) (b : Nat) (s : ByteArray) (R : Except (Nat × Int) (Pm × Nat)) (e : Ending) (w' : World) : Prop := match R with
  | .error q => e = .returned (.tuple #[.agg #[.string ⟨#[]⟩, .string ⟨#[]⟩, .bool false], .int .i64 (q.1 : Nat), .int .u8 q.2]) ∧ ∃ a', CG w b s a' w'
  | .ok q => e = .returned (.tuple #[.agg #[.string (strOfNums q.1.n), .string (strOfNums q.1.v), .bool q.1.h], .int .i64 0, .int .u8 0]) ∧ CG w b s q.2 w'
theorem ListP.bad {w w' : World} {b a' z : Nat} {k : Int} {s : ByteArray} {R : Except (Nat × Int) (Pm × Nat)} (h : R = .error (z, k)) (hc : CG w b s a' w') : ListP w b s R (.returned (.tuple #[.agg #[.string ⟨#[]⟩, .string ⟨#[]⟩, .bool false], .int .i64 (z : Nat), .int .u8 k])) w' := by
  subst h; exact ⟨rfl, a', hc⟩
theorem ListP.good {w w' : World} {b a' : Nat} {n v : List Int} {h : Bool} {s : ByteArray} {R : Except (Nat × Int) (Pm × Nat)} (hR : R = .ok (⟨n, v, h⟩, a')) (hc : CG w b s a' w') : ListP w b s R (.returned (.tuple #[.agg #[.string (strOfNums n), .string (strOfNums v), .bool h], .int .i64 0, .int .u8 0])) w' := by
  subst hR; exact ⟨rfl, hc⟩
theorem empty_beq (l : List Int) : ((strOfNums l).toList == ([] : List UInt8)) = l.isEmpty := by
  cases l with
  | nil => rw [show (strOfNums []) = ⟨#[]⟩ from rfl, List.isEmpty_nil, beq_iff_eq, toList_nil]
  | cons x l =>
    rw [List.isEmpty_cons, beq_eq_false_iff_ne, Ne, toList_nil]
    intro h
    have := congrArg ByteArray.size h
    rw [num_size, List.length_cons, show (ByteArray.mk #[]).size = 0 from rfl] at this
    omega
theorem subL_empty {X : List Int} {a b : Nat} (h : b ≤ X.length) (hab : a ≤ b) : (subL X a b).isEmpty = decide (b = a) := by
  rw [Bool.eq_iff_iff, List.isEmpty_iff, ← List.length_eq_zero_iff, subL_len h]
  simp; omega
theorem lowS_empty (l : List Int) : (lowS l).isEmpty = l.isEmpty := by cases l <;> rfl
theorem seesB_yes {X : List Int} {a : Nat} {c : Int} (h : a < X.length ∧ X.getD a 0 = c) : seesB X a c = true := by unfold seesB; rw [decide_eq_true h.1, h.2]; simp
theorem seesB_no {X : List Int} {a : Nat} {c : Int} (h : ¬ (a < X.length ∧ X.getD a 0 = c)) : seesB X a c = false := by
  rw [Bool.eq_false_iff]
  unfold seesB
  intro h2
  simp at h2
  exact h ⟨h2.1, by simpa using h2.2⟩

def KINDS : List (List Int × Int) := [
  ([70, 114, 111, 109], 1),
  ([84, 111], 1),
  ([67, 111, 110, 116, 97, 99, 116], 1),
  ([82, 111, 117, 116, 101], 1),
  ([82, 101, 99, 111, 114, 100, 45, 82, 111, 117, 116, 101], 1),
  ([80, 97, 116, 104], 1),
  ([83, 101, 114, 118, 105, 99, 101, 45, 82, 111, 117, 116, 101], 1),
  ([82, 101, 102, 101, 114, 45, 84, 111], 1),
  ([82, 101, 102, 101, 114, 114, 101, 100, 45, 66, 121], 1),
  ([82, 101, 112, 108, 121, 45, 84, 111], 1),
  ([86, 105, 97], 2),
  ([67, 83, 101, 113], 3),
  ([82, 65, 99, 107], 4),
  ([67, 111, 110, 116, 101, 110, 116, 45, 76, 101, 110, 103, 116, 104], 5),
  ([69, 120, 112, 105, 114, 101, 115], 5),
  ([77, 97, 120, 45, 70, 111, 114, 119, 97, 114, 100, 115], 5),
  ([77, 105, 110, 45, 69, 120, 112, 105, 114, 101, 115], 5),
  ([82, 83, 101, 113], 5),
  ([67, 111, 110, 116, 101, 110, 116, 45, 68, 105, 115, 112, 111, 115, 105, 116, 105, 111, 110], 6),
  ([67, 111, 110, 116, 101, 110, 116, 45, 84, 121, 112, 101], 6),
  ([69, 118, 101, 110, 116], 6),
  ([77, 105, 110, 45, 83, 69], 6),
  ([83, 101, 115, 115, 105, 111, 110, 45, 69, 120, 112, 105, 114, 101, 115], 6),
  ([83, 117, 98, 115, 99, 114, 105, 112, 116, 105, 111, 110, 45, 83, 116, 97, 116, 101], 6),
  ([65, 99, 99, 101, 112, 116], 7),
  ([65, 108, 108, 111, 119], 7),
  ([65, 108, 108, 111, 119, 45, 69, 118, 101, 110, 116, 115], 7),
  ([80, 114, 111, 120, 121, 45, 82, 101, 113, 117, 105, 114, 101], 7),
  ([82, 101, 113, 117, 105, 114, 101], 7),
  ([83, 117, 112, 112, 111, 114, 116, 101, 100], 7),
  ([85, 110, 115, 117, 112, 112, 111, 114, 116, 101, 100], 7)
]
def kindL (c : List Int) : Int := ((KINDS.find? fun q => q.1 == c).map (·.2)).getD 0
def MANY5 : List (List Int) := [[67, 111, 110, 116, 97, 99, 116], [80, 97, 116, 104], [82, 101, 99, 111, 114, 100, 45, 82, 111, 117, 116, 101], [82, 111, 117, 116, 101], [83, 101, 114, 118, 105, 99, 101, 45, 82, 111, 117, 116, 101]
]
def manyC (c : List Int) : Bool := MANY5.any (fun q => q == c) || (kindL c == 2 || kindL c == 7)
def manyN (nm : List Int) : Bool := match canonL nm with
  | some c => manyC c
  | none => false
def listL (v : List Int) : Except Int (List (List Int)) :=
  if (splitL v 44).2.2 ≠ 0 then .error (splitL v 44).2.2
  else if ((splitL v 44).1.map (·.2)).all (fun p => !p.isEmpty) = true then .ok ((splitL v 44).1.map (·.2)) else .error 5
def elemsL (v : List Int) : List (List Int) := match listL v with
  | .ok l => l
  | .error _ => [v]
def hitN (C : Option (List Int)) (h : ByteArray × ByteArray) : Bool := eqN (canonL (byteL h.1)) C
def allH (l : List (ByteArray × ByteArray)) (nm : List Int) : List (List Int) := (l.filter (hitN (canonL nm))).flatMap fun h => if manyN nm = true then elemsL (byteL h.2) else [byteL h.2]

def capK (xs : List Int) (k : Nat) : List Int := capL (xs.take k) ++ xs.drop k
theorem capK_len (xs : List Int) (k : Nat) : (capK xs k).length = xs.length := by
  unfold capK; rw [List.length_append, capL_len, List.length_take, List.length_drop]; omega
theorem capK_set {xs : List Int} {k : Nat} (h : k < xs.length) : (capK xs k).set k (capC (capF (xs.take k)).2 (xs.getD k 0)) = capK xs (k + 1) := by
  unfold capK
  rw [List.set_append_right _ _ (by rw [capL_len, List.length_take]; omega), capL_len, List.length_take, show k - min k xs.length = 0 by omega, drop_consI xs h, List.set_cons_zero, take_snocI xs h]
  unfold capL
  rw [capF_snoc]
  simp [capStep]
theorem capF_next {xs : List Int} {k : Nat} (h : k < xs.length) : (capF (xs.take (k + 1))).2 = (capC (capF (xs.take k)).2 (xs.getD k 0) == 45) := by rw [take_snocI xs h, capF_snoc]; rfl
theorem grown_set {w wr : World} {r : Option Nat} {p : Addr} {u : Value} (h : w.grownBy wr r) (hp : r = some p.block ∨ w.heap.size ≤ p.block) : w.grownBy (wr.setCell p u) r := by
  refine ⟨h.os, h.tape, h.output, by simpa [World.setCell] using h.size, fun k hk hr => ?_⟩
  have hne : k ≠ p.block := by
    rintro rfl
    rcases hp with h1 | h1
    · exact hr h1.symm
    · exact absurd h1 (Nat.not_le.2 hk)
  rw [Below.heap_setCell wr p u k hne]
  exact h.block k hk hr
theorem BR.other {w : World} {b : Nat} {xs : List Int} (h : BR w b xs) {p : Addr} (hp : p.block ≠ b) (u : Value) : BR (w.setCell p u) b xs :=
  ⟨by simpa [World.setCell] using h.lt, fun j x hx => by
    rw [World.cell?_setCell_other _ _ _ _ (by intro e; apply hp; rw [e])]
    exact h.c j x hx, fun j hj => by rw [World.frozen?_setCell]; exact h.f j hj⟩
structure CPX (w : World) (cb : Nat) (xs : List Int) (k : Nat) (wr : World) : Prop where
  r : BR wr w.heap.size (capK xs k)
  c : wr.cell? ⟨cb, 0, none⟩ = some (.bool (capF (xs.take k)).2)
  f : wr.frozen? ⟨cb, 0, none⟩ = false
  g : w.grownBy wr (some cb)
theorem CPX.step {w wr : World} {cb : Nat} {xs : List Int} {k : Nat} (H : CPX w cb xs k wr) (hk : k < xs.length) (hcb : cb < w.heap.size) :
    CPX w cb xs (k + 1) ((wr.setCell ⟨cb, 0, none⟩ (.bool (capC (capF (xs.take k)).2 (xs.getD k 0) == 45))).setCell ⟨w.heap.size, k, none⟩ (.int .u8 (capC (capF (xs.take k)).2 (xs.getD k 0)))) := by
  refine ⟨?_, ?_, ?_, ?_⟩
  · rw [← capK_set hk]
    exact (H.r.other (p := ⟨cb, 0, none⟩) (Nat.ne_of_lt hcb) _).set (by rw [capK_len]; exact hk) _
  · rw [World.cell?_setCell_other _ _ _ _ (by intro e; injection e with e1; exact absurd e1 (Nat.ne_of_gt hcb)), capF_next hk]
    exact World.cell?_setCell_same _ _ _ H.c
  · rw [World.frozen?_setCell, World.frozen?_setCell]
    exact H.f
  · exact grown_set (grown_set H.g (.inl rfl)) (.inr (Nat.le_refl _))

def hdC (h : ByteArray × ByteArray) : List Value := [.string h.1, .string h.2]
def hds (l : List (ByteArray × ByteArray)) : List Value := l.flatMap hdC
theorem Rds.range2 {w : World} {b o : Nat} {cs : List Value} (h : ∀ j u, cs[j]? = some u → w.cell? ⟨b, o + j, none⟩ = some u) (k : Nat) (us : List Value) (hu : ∀ j u, us[j]? = some u → cs[k + j]? = some u) : w.rangeAt b (o + k) us := fun j u hj => by
  rw [Nat.add_assoc]
  exact h _ _ (hu j u hj)
structure NM (w : World) (eb cb : Nat) (C : Option (List Int)) : Prop where
  c : w.cell? ⟨cb, 0, none⟩ = some (.string (strOfNums (C.getD [])))
  e : w.cell? ⟨eb, 0, none⟩ = some (.int .u8 (if C.isSome = true then 0 else 5))
theorem NM.below {w w1 : World} {eb cb : Nat} {C : Option (List Int)} (h : NM w eb cb C) (hb : Below w.heap.size w w1) : NM w1 eb cb C :=
  ⟨(hb.cell (World.block_lt_of_cell? w _ h.c)).trans h.c, (hb.cell (World.block_lt_of_cell? w _ h.e)).trans h.e⟩
theorem getD_beq {o c : List Int} (ho : By o) (hc : By c) : ((strOfNums o).toList == (strOfNums c).toList) = (o == c) := by
  rw [Bool.eq_iff_iff, beq_iff_eq, beq_iff_eq, toList_inj]
  constructor
  · intro h
    rw [← byteL_str ho, h, byteL_str hc]
  · rintro rfl; rfl
def idxV : Option Nat → Value
  | none => .int .i64 (-1)
  | some k => .int .i64 k
end Go.Proofs.YthfonniieaiocaaGreatDoor
