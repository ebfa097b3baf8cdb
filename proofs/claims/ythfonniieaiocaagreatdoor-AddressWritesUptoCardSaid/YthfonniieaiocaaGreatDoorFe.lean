/- A call's own rows, and facts that stay whatever is stored into them. And what stands behind it. -/
import Derived.Test.YthfonniieaiocaaGreatDoorQb
import Derived.Test.YthfonniieaiocaaGreatDoorAd
import Derived.Test.YthfonniieaiocaaGreatDoorEg
import Derived.Laws.StructEq
import Derived.Test.YthfonniieaiocaaGreatDoorBm
import Derived.Test.YthfonniieaiocaaGreatDoorBd
import Derived.Test.YthfonniieaiocaaGreatDoorPh
import Derived.Test.YthfonniieaiocaaGreatDoorAe
set_option linter.unusedVariables false
set_option linter.unusedSimpArgs false
namespace Go.Proofs.YthfonniieaiocaaGreatDoor
open Go.RowKit

abbrev Blk := Nat × TypeId × List Value
structure Agree (L : List Blk) (w w' : World) : Prop where
  os : w'.os = w.os
  tape : w'.tape = w.tape
  output : w'.output = w.output
  size : w.heap.size ≤ w'.heap.size
  block : ∀ k, k < w.heap.size → k ∉ L.map (·.1) → w'.heap[k]? = w.heap[k]?
def Stab (L : List Blk) (w : World) (F : World → Prop) : Prop := ∀ w', Agree L w w' → F w'
structure Mine (w0 w : World) (L : List Blk) (FS : List (World → Prop)) : Prop where
  bw : Below w0.heap.size w0 w
  rows : ∀ r ∈ L, Row w r.1 r.2.1 r.2.2 ∧ w0.heap.size ≤ r.1
  nd : (L.map (·.1)).Nodup
  fs : ∀ F ∈ FS, Stab L w F
section
variable {w0 w w' w'' : World} {L : List Blk} {FS : List (World → Prop)}
theorem Agree.refl (L : List Blk) (w : World) : Agree L w w := ⟨rfl, rfl, rfl, Nat.le_refl _, fun _ _ _ => rfl⟩
theorem Agree.trans (h : Agree L w w') (h2 : Agree L w' w'') : Agree L w w'' := ⟨h2.os.trans h.os, h2.tape.trans h.tape, h2.output.trans h.output, Nat.le_trans h.size h2.size, fun k hk hn => (h2.block k (Nat.lt_of_lt_of_le hk h.size) hn).trans (h.block k hk hn)⟩
theorem Agree.of_below (L : List Blk) (h : Below w.heap.size w w') : Agree L w w' := ⟨h.os, h.tape, h.output, h.size, fun k hk _ => h.block k hk⟩
theorem Stab.out {F : World → Prop} (h : Stab L w F) : F w := h w (Agree.refl _ _)
theorem Stab.step {F : World → Prop} (h : Stab L w F) (ha : Agree L w w') : Stab L w' F := fun w'' h2 => h w'' (ha.trans h2)
theorem Stab.wider {F : World → Prop} {L' : List Blk} (h : Stab L w F) (hb : ∀ k, k < w.heap.size → k ∉ L.map (·.1) → k ∉ L'.map (·.1)) : Stab L' w F := fun w' h2 => h w' ⟨h2.os, h2.tape, h2.output, h2.size, fun k hk hn => h2.block k hk (hb k hk hn)⟩
theorem Mine.refl (w : World) : Mine w w [] [] := ⟨Below.refl _ _, (fun _ h => by cases h), List.nodup_nil, fun _ h => by cases h⟩
theorem Mine.row {i b : Nat} {T : TypeId} {vs : List Value} (h : Mine w0 w L FS) (hi : L[i]? = some (b, T, vs)) : Row w b T vs := (h.rows _ (List.mem_of_getElem? hi)).1
theorem Mine.ge {i b : Nat} {T : TypeId} {vs : List Value} (h : Mine w0 w L FS) (hi : L[i]? = some (b, T, vs)) : w0.heap.size ≤ b := (h.rows _ (List.mem_of_getElem? hi)).2
theorem Mine.fact {i : Nat} {F : World → Prop} (h : Mine w0 w L FS) (hi : FS[i]? = some F) : F w := (h.fs _ (List.mem_of_getElem? hi)).out
theorem Mine.fresh {b : Nat} (h : Mine w0 w L FS) (hb : w.heap.size ≤ b) : b ∉ L.map (·.1) := fun hm => by
  obtain ⟨r, hr, rfl⟩ := List.mem_map.1 hm
  have := (h.rows r hr).1.lt
  omega
theorem Mine.call (h : Mine w0 w L FS) (hb : Below w.heap.size w w') : Mine w0 w' L FS :=
  ⟨bthen h.bw hb, fun r hr => ⟨(h.rows r hr).1.below hb, (h.rows r hr).2⟩, h.nd, fun F hF => (h.fs F hF).step (.of_below L hb)⟩
theorem Mine.drew (h : Mine w0 w L FS) : Mine w0 w.drew L FS := h.call (Below.refl _ _).drew
theorem Mine.add {F : World → Prop} (h : Mine w0 w L FS) (hF : Stab L w F) : Mine w0 w L (F :: FS) := ⟨h.bw, h.rows, h.nd, fun G hG => by
  rcases List.mem_cons.1 hG with rfl | hG
  · exact hF
  · exact h.fs G hG⟩
theorem Mine.join {b : Nat} {T : TypeId} {vs : List Value} (h : Mine w0 w L FS) (hb : Below w.heap.size w w') (hg : w.heap.size ≤ b) (hr : Row w' b T vs) : Mine w0 w' ((b, T, vs) :: L) FS :=
  ⟨bthen h.bw hb, fun r hm => by
    rcases List.mem_cons.1 hm with rfl | hm
    · exact ⟨hr, Nat.le_trans h.bw.size hg⟩
    · exact ⟨(h.rows r hm).1.below hb, (h.rows r hm).2⟩, by
    rw [List.map_cons, List.nodup_cons]
    exact ⟨h.fresh hg, h.nd⟩, fun F hF w'' ha => h.fs F hF w'' ⟨ha.os.trans hb.os, ha.tape.trans hb.tape, ha.output.trans hb.output, Nat.le_trans hb.size ha.size, fun k hk hn => (ha.block k (Nat.lt_of_lt_of_le hk hb.size) (by
      rw [List.map_cons, List.mem_cons, not_or]
      exact ⟨by dsimp only; omega, hn⟩)).trans (hb.block k hk)⟩⟩
theorem Mine.alloc (h : Mine w0 w L FS) (T : TypeId) (vs : List Value) : Mine w0 (w.alloc (.cells vs.toArray T)) ((w.heap.size, T, vs) :: L) FS :=
  h.join ((Below.refl _ _).alloc (Nat.le_refl _) _) (Nat.le_refl _) (Row.new w T vs)
theorem map_set_fst {i b : Nat} {T : TypeId} {vs us : List Value} (hi : L[i]? = some (b, T, vs)) : (L.set i (b, T, us)).map (·.1) = L.map (·.1) := by
  rw [List.map_set]
  dsimp only
  refine List.ext_getElem? fun j => ?_
  rw [List.getElem?_set]
  split
  · rename_i e
    subst e
    have hl : i < L.length := (List.getElem?_eq_some_iff.1 hi).1
    rw [List.length_map, if_pos hl, List.getElem?_map, hi]
    rfl
  · rfl
theorem Mine.store {i b : Nat} {T : TypeId} {vs us : List Value} {L' : List Blk} (h : Mine w0 w L FS) (hi : L[i]? = some (b, T, vs)) (hL : L.set i (b, T, us) = L') (hr : Row w' b T us) (hB : Below w0.heap.size w0 w') (hH : w'.heap.size = w.heap.size ∧ ∀ b', b' ≠ b → w'.heap[b']? = w.heap[b']?) : Mine w0 w' L' FS := by
  subst hL
  have hm := map_set_fst (us := us) hi
  have hbm : b ∈ L.map (·.1) := List.mem_map.2 ⟨_, List.mem_of_getElem? hi, rfl⟩
  have hA : Agree L w w' := ⟨hB.os.trans h.bw.os.symm, hB.tape.trans h.bw.tape.symm, hB.output.trans h.bw.output.symm, by omega, fun k _ hn => hH.2 k (fun e => hn (e ▸ hbm))⟩
  refine ⟨hB, fun r hr' => ?_, by rw [hm]; exact h.nd, fun F hF => ((h.fs F hF).step hA).wider (fun k _ hn => by rw [hm]; exact hn)⟩
  rcases List.mem_or_eq_of_mem_set hr' with hr' | rfl
  · by_cases hrb : r.1 = b
    · obtain ⟨j, hj⟩ := List.mem_iff_getElem?.1 hr'
      have hl : i < L.length := (List.getElem?_eq_some_iff.1 hi).1
      obtain ⟨j', hj'⟩ := List.mem_iff_getElem?.1 hr'
      have hnd : ((L.set i (b, T, us)).map (·.1)).Nodup := by rw [hm]; exact h.nd
      obtain ⟨q, hq⟩ := List.mem_iff_getElem?.1 ‹r ∈ L.set i (b, T, us)›
      have h1 : ((L.set i (b, T, us)).map (·.1))[q]? = some b := by rw [List.getElem?_map, hq, ← hrb]; rfl
      have h2 : ((L.set i (b, T, us)).map (·.1))[i]? = some b := by rw [List.getElem?_map, List.getElem?_set_self hl]; rfl
      have hqi : q = i := by
        obtain ⟨l1, e1⟩ := List.getElem?_eq_some_iff.1 h1
        obtain ⟨l2, e2⟩ := List.getElem?_eq_some_iff.1 h2
        exact (List.getElem_inj hnd).1 (e1.trans e2.symm)
      subst hqi
      rw [List.getElem?_set_self hl] at hq
      injection hq with hq
      subst hq
      exact ⟨hr, h.ge hi⟩
    · exact ⟨((h.rows r hr').1).heap (hH.2 _ hrb), (h.rows r hr').2⟩
  · exact ⟨hr, h.ge hi⟩
theorem Mine.setCell {i b off : Nat} {T : TypeId} {vs : List Value} {L' : List Blk} (u : Value) (h : Mine w0 w L FS) (hi : L[i]? = some (b, T, vs)) (hL : L.set i (b, T, vs.set off u) = L') : Mine w0 (w.setCell ⟨b, off, none⟩ u) L' FS :=
  h.store hi hL ((h.row hi).set off u) (h.bw.setCell (h.ge hi) u) ⟨by simp [World.setCell], fun b' hb' => Below.heap_setCell w ⟨b, off, none⟩ u b' hb'⟩
theorem Mine.rest {r : Blk} (h : Mine w0 w (r :: L) FS) : Mine w0 w L ((fun W => Row W r.1 r.2.1 r.2.2) :: FS) :=
  ⟨h.bw, fun x hx => h.rows x (List.mem_cons_of_mem _ hx), (by have := h.nd; rw [List.map_cons, List.nodup_cons] at this; exact this.2), fun F hF w' ha => by
    have hnd := h.nd
    rw [List.map_cons, List.nodup_cons] at hnd
    rcases List.mem_cons.1 hF with rfl | hF
    · have hr := (h.rows r (List.mem_cons_self ..)).1
      exact hr.heap (ha.block _ hr.lt hnd.1)
    · exact h.fs F hF w' ⟨ha.os, ha.tape, ha.output, ha.size, fun k hk hn => ha.block k hk (fun hm => hn (by rw [List.map_cons]; exact List.mem_cons_of_mem _ hm))⟩⟩
theorem Mine.sub {L' : List Blk} (h : Mine w0 w L FS) (hs : ∀ r ∈ L', r ∈ L) (hn : (L'.map (·.1)).Nodup) : Mine w0 w L' FS :=
  ⟨h.bw, fun r hr => h.rows r (hs r hr), hn, fun F hF => (h.fs F hF).wider fun k _ hk hm => hk (by
    obtain ⟨r, hr, e⟩ := List.mem_map.1 hm
    exact List.mem_map.2 ⟨r, hs r hr, e⟩)⟩
theorem Mine.tail {r : Blk} (h : Mine w0 w (r :: L) FS) : Mine w0 w L FS := h.sub (fun x hx => List.mem_cons_of_mem _ hx) (by have := h.nd; rw [List.map_cons, List.nodup_cons] at this; exact this.2)
theorem stab_rds {A : Option Addr} {cs : List Value} (h : Rds w w.heap.size A cs) (hn : ∀ b o s, A = some ⟨b, o, s⟩ → b ∉ L.map (·.1)) : Stab L w (fun W => Rds W W.heap.size A cs) := fun w' ha hp => by
  obtain ⟨b, o, e, hb, hc⟩ := h hp
  refine ⟨b, o, e, Nat.lt_of_lt_of_le hb ha.size, fun j u hu => ?_⟩
  rw [World.cell?_of_block (w := w) (a := ⟨b, o + j, none⟩) (ha.block b hb (hn b o none e))]
  exact hc j u hu
theorem stab_row {b : Nat} {T : TypeId} {vs : List Value} (h : Row w b T vs) (hn : b ∉ L.map (·.1)) : Stab L w (fun W => Row W b T vs) := fun w' ha => h.heap (ha.block b h.lt hn)
end
section
variable {P : Program} {ops : Array Oper} {rest : List Oper} {op : Oper} {a : Act} {w0 w : World} {Q : Exit → Act → World → Prop}
theorem wpList_storeN (hgd : op.guard = none) (ty : TypeId) (x y : Operand) (ho : op.op = .store ty x y) (zs us : List Value) {T : TypeId}
    (hx : a.eval x = .pointer (some ⟨w.heap.size, 0, none⟩)) (hy : a.eval y = .agg us.toArray) (hl : zs.length = us.length) (hi : (P.info? ty).map (·.size) = some us.length) (h1 : ∀ u ∈ us, u.oneCell' = true)
    (h : ∀ w', Hid (Row w' w.heap.size T us) → Hid (Below w.heap.size w w') → wpList P ops Q rest (a.put op.dst undef) w') : wpList P ops Q (op :: rest) a (w.alloc (.cells zs.toArray T)) :=
  wpList_storeR hgd ty x y ho (Row.new w T zs) us hx hy hl hi h1 ((Below.refl w.heap.size w).alloc (Nat.le_refl _) _) (Nat.le_refl _) fun w' h1 h2 _ => h w' h1 h2
end

theorem allH_len (nm : List Int) : ∀ l : List (ByteArray × ByteArray), (allH l nm).length ≤ (l.map fun h => (elemsL (byteL h.2)).length + 1).sum
  | [] => Nat.zero_le _
  | h :: l => by
    have ih := allH_len nm l
    have h2 : allH (h :: l) nm = (if hitN (canonL nm) h = true then one1 nm h else []) ++ allH l nm := by
      rw [allH_eq, allH_eq, List.filter_cons]
      cases hitN (canonL nm) h with
      | true => rw [if_pos rfl, if_pos rfl, List.flatMap_cons]
      | false => rw [if_neg (by decide), if_neg (by decide), List.nil_append]
    have h3 : (one1 nm h).length ≤ (elemsL (byteL h.2)).length + 1 := by
      unfold one1
      split
      · omega
      · simp
    rw [h2, List.length_append, List.map_cons, List.sum_cons]
    split
    · omega
    · simp; omega
theorem HdOK.of {l : List (ByteArray × ByteArray)} {n : Nat} (hn : l.length = n) (hm : n ≤ 16000000) (hh : ∀ h ∈ l, h.1.size ≤ 4000000 ∧ h.2.size ≤ 4000000 ∧ (elemsL (byteL h.2)).isEmpty = false ∧ (byteL h.2).contains 91 = false) (ht : (l.map fun h => (elemsL (byteL h.2)).length + 1).sum ≤ 1000000) : HdOK l n :=
  ⟨hn, hm, fun h hm => ⟨(hh h hm).1, (hh h hm).2.1, (fun e => by have := (hh h hm).2.2.1; rw [e] at this; cases this), (fun e => by
    have h1 := (hh h hm).2.2.2
    rw [List.contains_eq_mem, decide_eq_true e] at h1
    cases h1)⟩, fun nm => Nat.le_trans (allH_len nm l) ht⟩
theorem HdOK.nil : HdOK [] 0 := ⟨rfl, by decide, (fun h hm => by cases hm), (fun nm => by unfold allH; simp)⟩
abbrev EXPN : ByteArray := ⟨#[83, 101, 115, 115, 105, 111, 110, 45, 69, 120, 112, 105, 114, 101, 115]⟩
abbrev SUPN : ByteArray := ⟨#[83, 117, 112, 112, 111, 114, 116, 101, 100]⟩
abbrev V1800 : ByteArray := ⟨#[49, 56, 48, 48]⟩
abbrev VTIM : ByteArray := ⟨#[116, 105, 109, 101, 114]⟩
def WH : List (ByteArray × ByteArray) := [(EXPN, V1800), (SUPN, VTIM)]

section
variable {P : Program} {ops : Array Oper} {Q : Exit → Act → World → Prop}
theorem rel_free {i : Nat} {o : Oper} {a : Act} {w : World} {K : Act → World → Prop} (ho : ops[i]? = some o) (hg : o.guard = none) (h : o.wp P a w K Q) : wpOp P ops Q i K a w := wpOp_face ho hg h
end
section
variable {P : Program} {o : Oper} {a : Act} {w : World} {next : Act → World → Prop} {Q : Exit → Act → World → Prop}
theorem wp_fa1 (T : TypeId) (x : Operand) (k : Nat) (ho : o.op = .fieldAddr T x k) (b off : Nat) (hx : a.eval x = .pointer (some ⟨b, 0, none⟩)) (hr : ∀ w : World, (Instr.fieldAt T (.pointer (some ⟨b, 0, none⟩)) k).run P w = .ok (.pointer (some ⟨b, off, none⟩)) w)
    (hn : next (a.put o.dst (.pointer (some ⟨b, off, none⟩))) w) : o.wp P a w next Q :=
  wp_value _ (by unfold execOp; simp only [ho, hx, Sem.run_bind, hr, Result.andThen_ok]; rfl) hn
theorem wp_bin1 (op : BinOp) (T : TypeId) (x y : Operand) (rt : TypeId) (ho : o.op = .binOp op T x y rt) (p q r : Value) (hx : a.eval x = p) (hy : a.eval y = q) (hg : ∀ w : World, (eqGuard op T x y p q).run P w = .ok () w) (hr : ∀ w : World, (binOp op T p q).run P w = .ok r w) (hn : next (a.put o.dst r) w) : o.wp P a w next Q :=
  wp_value _ (by unfold execOp; simp only [ho, hx, hy, Sem.run_bind, hg, hr, Result.andThen_ok]; rfl) hn
theorem wp_not1 (T : TypeId) (x : Operand) (ho : o.op = .unOp .not T x) (b : Bool) (hx : a.eval x = .bool b) (hn : next (a.put o.dst (.bool !b)) w) : o.wp P a w next Q :=
  wp_value _ (by unfold execOp; simp only [ho, hx, Sem.run_bind, Op.unary, Sem.run_pure, Result.andThen_ok]) hn
theorem wp_ldc1 (ty : TypeId) (x : Operand) (ho : o.op = .load ty x) (b off : Nat) (v : Value) (hx : a.eval x = .pointer (some ⟨b, off, none⟩)) (hc : w.cell? ⟨b, off, none⟩ = some v) (d : TypeDesc) (hu : P.underlying ty = some d) (hd : d.isRow = false)
    (hn : next (a.put o.dst v) w) : o.wp P a w next Q :=
  wp_value v (by
    have hagg : (isAgg ty).run P w = .ok false w := by
      unfold isAgg
      rw [Sem.run_bind, run_underlying hu w]
      cases d <;> simp_all
    have hl : (loadVar ty ⟨b, off, none⟩).run P w = .ok v w := by
      simp [loadVar, Sem.run_bind, hagg, hc]
    unfold execOp
    simp only [ho, hx, Instr.loadAt, Instr.sureAddr, Sem.run_bind, Sem.run_pure, Result.andThen_ok, hl]) hn
end

theorem size_setCells : ∀ (us : List Value) (b o : Nat) (w : World), (w.setCells b o us).heap.size = w.heap.size
  | [], _, _, _ => rfl
  | u :: us, b, o, w => by
    show ((w.setCell ⟨b, o, none⟩ u).setCells b (o + 1) us).heap.size = _
    rw [size_setCells us b (o + 1) _]
    simp

def gsL (ps : List (List Int)) (k : Nat) : List (List Int) := (ps.take k).map grpN ++ ps.drop k
theorem gsL_at {ps : List (List Int)} {k : Nat} {p : List Int} (h : ps[k]? = some p) : (strs (gsL ps k))[k]? = some (.string (strOfNums p)) := by
  have hk : k < ps.length := (List.getElem?_eq_some_iff.1 h).1
  unfold strs gsL
  rw [List.getElem?_map, List.getElem?_append_right (by simp; omega)]
  simp [h, show min k ps.length = k by omega]
theorem gsL_set {ps : List (List Int)} {k : Nat} {p : List Int} (h : ps[k]? = some p) : (strs (gsL ps k)).set k (.string (strOfNums (grpN p))) = strs (gsL ps (k + 1)) := by
  have hk : k < ps.length := (List.getElem?_eq_some_iff.1 h).1
  have e1 : ps.drop k = p :: ps.drop (k + 1) := by rw [List.drop_eq_getElem_cons hk]; congr 1; exact Option.some.inj ((List.getElem?_eq_getElem hk).symm.trans h)
  have e2 : ps.take (k + 1) = ps.take k ++ [p] := take_succ_at h
  unfold strs gsL
  rw [e2, e1, List.map_append, List.map_append, List.map_append, List.map_cons]
  rw [List.set_append, if_neg (by simp; omega)]
  simp [show min k ps.length = k by omega]
def GrpR (w : World) (R : Option (List (List Int))) (e : Ending) (w' : World) : Prop := match R with
  | none => e = .returned (.tuple #[.slice none 0 0, .bool false]) ∧ Below w.heap.size w w'
  | some l => ∃ v, e = .returned (.tuple #[v, .bool true]) ∧ SXL w v l w'
theorem GrpR.bad {w w' : World} {R : Option (List (List Int))} (h : R = none) (hb : Below w.heap.size w w') : GrpR w R (.returned (.tuple #[.slice none 0 0, .bool false])) w' := by
  subst h; exact ⟨rfl, hb⟩
theorem GrpR.good {w w' : World} {R : Option (List (List Int))} {l : List (List Int)} {v : Value} (h : R = some l) (hb : SXL w v l w') : GrpR w R (.returned (.tuple #[v, .bool true])) w' := by
  subst h; exact ⟨v, rfl, hb⟩
theorem grp_no {s : List Int} {k : Nat} {p : List Int} (hp : (cutL 58 s)[k]? = some p) (h : grpOK p = false) : grpL s = none := by
  unfold grpL
  rw [if_neg]
  intro ha
  have := List.all_eq_true.1 ha p (List.mem_of_getElem? hp)
  rw [h] at this; cases this
set_option maxRecDepth 100000 in
set_option maxHeartbeats 4000000 in
theorem grouplist_any (s : ByteArray) (w : World) (hs : s.size ≤ 4000000) (hm : GM w) : Calls Tryz.prog 125 #[.string s] w (GrpR w (grpL (byteL s))) := by
  have SP := kd (split_any s 58 w hs hm)
  have PB := kd (cutL_by (sep := 58) (byteL_by s))
  have NO := kd (fun k p h h2 => grp_no (s := byteL s) (k := k) (p := p) h h2)
  have YES := kd (fun (h : (cutL 58 (byteL s)).all grpOK = true) => show grpL (byteL s) = some ((cutL 58 (byteL s)).map grpN) by unfold grpL; rw [if_pos h])
  have PL := kd (show ∀ p ∈ cutL 58 (byteL s), p.length ≤ s.size from fun p hp => by rw [← byteL_len]; exact ((cutL_sub 58 _).1 p hp).length_le)
  rw [show (((58 : UInt8)).toNat : Int) = 58 from rfl] at SP
  generalize grpL (byteL s) = R at *
  obtain ⟨ps, hps⟩ : ∃ ps, cutL 58 (byteL s) = ps := ⟨_, rfl⟩
  rw [hps] at PB NO YES PL
  have PSE := kd hps
  clear hps
  have PC := kd (show ps.length ≤ s.size + 1 from by rw [← PSE.out, ← byteL_len]; exact (cutL_sub 58 _).2)
  have ST := kd (Mine.refl w)
  clear hm
  go_enter Tryz.func125, Tryz.ntmps125
  go_wp2_with fail
  refine SP.out.mono ?_
  clear SP
  rintro e W0 ⟨zs, hz, rfl, rfl⟩
  have hz2 : zs = ps.map strOfNums := by rw [← PSE.out, ← hz, List.map_map]; exact (List.map_id _).symm.trans (List.map_congr_left fun z _ => (str_byteL z).symm)
  have hz3 : zs.map Value.string = strs ps := by rw [hz2, List.map_map]; rfl
  have hz4 : zs.length = ps.length := by rw [hz2, List.length_map]
  rw [hz3, hz4]
  clear hz hz2 hz3 hz4
  obtain ⟨n, hn⟩ : ∃ n, ps.length = n := ⟨_, rfl⟩
  rw [hn]
  have HN := kd hn
  have nl : n ≤ 4000001 := by have := PC.out; omega
  clear hn PC
  replace ST := kd (show Mine w (w.alloc (.cells (strs ps).toArray 9)) [(w.heap.size, 9, strs (gsL ps 0))] [] from ST.out.alloc 9 (strs ps))
  generalize w.alloc (.cells (strs ps).toArray 9) = W at *
  go_wp2_with fail
  go_loopw [14] (fun v wr => ∃ k : Nat, k ≤ n ∧ v = .int .i64 k ∧ Hid ((ps.take k).all grpOK = true) ∧ Hid (Mine w wr [(w.heap.size, 9, strs (gsL ps k))] [])) (fun v _ => n - (intOf v).toNat)
  case atStart => exact ⟨0, Nat.zero_le _, rfl, kd rfl, ST⟩
  case round =>
    clear ST
    obtain ⟨k, hk, rfl, OK, ST⟩ := hrel
    by_cases hlt : k < n
    · have hd : decide (k < n) = true := by simp [hlt]
      have hd2 : decide ((k : Int) < (n : Int)) = true := by simp; omega
      have i0 : (0 : Int) ≤ (k : Int) := by omega
      have i1 : (k : Int) < (n : Int) := by omega
      obtain ⟨p, hp⟩ : ∃ p, ps[k]? = some p := ⟨_, List.getElem?_eq_getElem (by rw [HN.out]; exact hlt)⟩
      have cx := ((ST.out.row (i := 0) rfl).cell k).trans (gsL_at hp)
      have fx := (ST.out.row (i := 0) rfl).frozen k
      have pb := PB.out p (List.mem_of_getElem? hp)
      have pl := PL.out p (List.mem_of_getElem? hp)
      have SET := kd (gsL_set hp)
      have CX := kd (gsL_at hp)
      have BAD := kd (NO.out k p hp)
      have NXT := kd (fun (h : grpOK p = true) => show (ps.take (k + 1)).all grpOK = true by rw [take_succ_at hp, List.all_append, OK.out]; simp [h])
      clear hp
      obtain ⟨g, hg⟩ : ∃ g, strOfNums p = g := ⟨_, rfl⟩
      have gX : byteL g = p := by rw [← hg]; exact byteL_str pb
      have gS : p.length = g.size := by rw [← gX, byteL_len]
      rw [hg] at cx
      clear hg
      subst gX
      have HL := kd (byteL_len g)
      have HB := kd pb
      have IDX := kd (fun (i : Nat) (h : i < g.size) (w : World) => idx_str g (i := i) h (z := (i : Int)) rfl w)
      have LW := kd (adlower_any g wr (by rw [← HL.out]; omega))
      have GN := kd (show grpN (byteL g) = if (lowS (byteL g)).dropWhile (· == 48) = [] then [48] else (lowS (byteL g)).dropWhile (· == 48) from rfl)
      have GO := kd (show grpOK (byteL g) = ((decide (1 ≤ (byteL g).length) && decide ((byteL g).length ≤ 4)) && (byteL g).all hexB) from rfl)
      have LB := kd (lowS_by pb)
      rw [HL.out] at GO
      clear pb pl gS
      generalize grpN (byteL g) = gn at *
      generalize grpOK (byteL g) = go at *
      generalize lowS (byteL g) = lw at *
      generalize byteL g = X at *
      by_cases h1 : g.size < 1
      · have d1 : decide ((g.size : Int) < 1) = true := by simp; omega
        have d3 : decide (1 ≤ g.size) = false := decide_eq_false (by omega)
        have E := kd (BAD.out (by rw [GO.out, d3]; rfl))
        go_wp2_with fail
        go_ret2
        exact GrpR.bad E.out ST.out.bw
      have d1 : decide ((g.size : Int) < 1) = false := by simp; omega
      by_cases h2 : 4 < g.size
      · have d2 : decide ((4 : Int) < (g.size : Int)) = true := by simp; omega
        have d3 : decide (g.size ≤ 4) = false := decide_eq_false (by omega)
        have E := kd (BAD.out (by rw [GO.out, d3, Bool.and_false]; rfl))
        go_wp2_with fail
        go_ret2
        exact GrpR.bad E.out ST.out.bw
      have d2 : decide ((4 : Int) < (g.size : Int)) = false := by simp; omega
      have GO2 := kd (show go = X.all hexB by rw [GO.out, decide_eq_true (show 1 ≤ g.size by omega), decide_eq_true (show g.size ≤ 4 by omega)]; rfl)
      clear GO
      go_wp2_with fail
      have g4 : g.size ≤ 4 := by omega
      clear d1 d2 h1 h2
      obtain ⟨wo, rfl⟩ : ∃ wo : World, wo = wr := ⟨_, rfl⟩
      go_loopw [29] (fun v wr => ∃ j : Nat, j ≤ g.size ∧ v = .int .i64 j ∧ Hid ((X.take j).all hexB = true) ∧ wr = wo) (fun v _ => g.size - (intOf v).toNat)
      case atStart => exact ⟨0, Nat.zero_le _, rfl, kd rfl, rfl⟩
      case round =>
        obtain ⟨j, hj, rfl, HJ, rfl⟩ := hrel
        by_cases hjt : j < g.size
        · have e1 : decide ((j : Int) < (g.size : Int)) = true := by simp; omega
          have dx := IDX.out j hjt
          have hjX : j < X.length := by rw [HL.out]; exact hjt
          have hx := HB.out _ (getD_mem hjX)
          have BD2 := kd (fun h => all_no (p := hexB) hjX h)
          have NX2 := kd (fun (h : hexB (X.getD j 0) = true) => show (X.take (j + 1)).all hexB = true by rw [all_take_succ hjX, HJ.out, h]; rfl)
          have HD := kd (hexdigit_any (X.getD j 0) wr hx.1 hx.2)
          clear hjX
          generalize X.getD j 0 = x at *
          generalize hexN x = hn at *
          cases hb : hexB x with
          | false =>
            have E := kd (BAD.out (by rw [GO2.out, BD2.out hb]))
            rw [hb] at HD
            clear BD2 NX2
            go_wp2_with (go_at_call 122; refine HD.out.mono ?_; rintro e w' ⟨rfl, rfl⟩)
            go_ret2
            exact GrpR.bad E.out ST.out.bw
          | true =>
            have N := kd (NX2.out hb)
            rw [hb] at HD
            clear BD2 NX2
            go_wp2_with (go_at_call 122; refine HD.out.mono ?_; rintro e w' ⟨rfl, rfl⟩)
            go_roundw
            case rel => exact ⟨j + 1, by omega, by go_num, N, by first | rfl | trivial⟩
            case measure => simp [intOf]; omega
        · obtain rfl : j = g.size := by omega
          have e1 : decide ((g.size : Int) < (g.size : Int)) = false := by simp
          have OKp := kd (NXT.out (by rw [GO2.out]; have := HJ.out; rwa [List.take_of_length_le (by rw [HL.out]; exact Nat.le_refl _)] at this))
          clear HJ BAD NXT GO2 IDX HB
          go_wp2_with fail
          refine LW.out.mono ?_
          rintro e W2 ⟨rfl, hbl⟩
          replace ST := kd (ST.out.call hbl)
          clear hbl LW cx fx
          have cx := ((ST.out.row (i := 0) rfl).cell k).trans CX.out
          have fx := (ST.out.row (i := 0) rfl).frozen k
          obtain ⟨t, ht⟩ : ∃ t, lw.dropWhile (· == 48) = t := ⟨_, rfl⟩
          rw [ht] at GN
          have TB : By t := by rw [← ht]; exact LB.out.sub (List.dropWhile_sublist _)
          have TR := kd (show Calls Tryz.prog 161 #[.string (strOfNums lw), .string ⟨#[48]⟩] W2 fun e w' => e = .returned (.string (strOfNums t)) ∧ W2 = w' by
            have h := trim0_any (strOfNums lw) W2
            rwa [byteL_str LB.out, ht] at h)
          have q := lit_beq TB []
          clear ht LB
          by_cases h0 : t = []
          · subst h0
            have GE : gn = [48] := by rw [GN.out, if_pos rfl]
            subst GE
            go_wp2_with (go_at_call 161; refine TR.out.mono ?_; rintro e w' ⟨rfl, rfl⟩)
            go_roundw
            case rel => exact ⟨k + 1, by omega, by go_num, OKp, kd (ST.out.setCell (i := 0) (off := k) (.string (strOfNums [48])) rfl (by rw [SET.out]; rfl))⟩
            case measure => simp [intOf]; omega
          · have GE : gn = t := by rw [GN.out, if_neg h0]
            subst GE
            have q2 : ((strOfNums gn).toList == ([] : List UInt8)) = false := by
              rw [q, beq_eq_false_iff_ne]
              exact fun h => h0 h.symm
            clear q h0
            go_wp2_with (go_at_call 161; refine TR.out.mono ?_; rintro e w' ⟨rfl, rfl⟩)
            go_roundw
            case rel => exact ⟨k + 1, by omega, by go_num, OKp, kd (ST.out.setCell (i := 0) (off := k) (.string (strOfNums gn)) rfl (by rw [SET.out]; rfl))⟩
            case measure => simp [intOf]; omega
    · obtain rfl : k = n := by omega
      have E := kd (YES.out (by have := OK.out; rwa [List.take_of_length_le (by rw [HN.out]; exact Nat.le_refl _)] at this))
      have V := kd (show SXL w (.slice (some ⟨w.heap.size, 0, none⟩) k k) (ps.map grpN) wr by
        have r := ST.out.row (i := 0) rfl
        have e : gsL ps k = ps.map grpN := by
          unfold gsL
          rw [List.take_of_length_le (by rw [HN.out]; exact Nat.le_refl _), List.drop_of_length_le (by rw [HN.out]; exact Nat.le_refl _), List.append_nil]
        rw [e] at r
        have hl : (ps.map grpN).length = k := by rw [List.length_map]; exact HN.out
        show VX 9 1 w _ (ps.map grpN).length _ wr
        rw [hl]
        exact ⟨⟨by rw [strs_len, hl, Nat.mul_one], .inr ⟨w.heap.size, k, (strs (ps.map grpN)).toArray, rfl, Nat.le_refl _, r, Nat.le_refl _, by unfold maxLen; omega, by simp [strs_len, hl], by rw [Nat.mul_one, ← hl, ← strs_len]; simp⟩⟩, ST.out.bw⟩)
      go_wp2_with fail
      go_ret2
      exact GrpR.good E.out V.out

theorem Mine.grown {w0 w w' : World} {L : List Blk} {FS : List (World → Prop)} {b : Nat} {T : TypeId} {vs : List Value} (h : Mine w0 w ((b, T, vs) :: L) FS) (hg : w.grownBy w' (some b)) : Mine w0 w' L FS := by
  have hb0 : w0.heap.size ≤ b := h.ge (i := 0) rfl
  have hnd := h.nd
  rw [List.map_cons, List.nodup_cons] at hnd
  refine ⟨h.bw.grown hg h.bw.size (fun k hk => by injection hk with hk; omega), fun r hr => ?_, hnd.2, fun G hG => ?_⟩
  · obtain ⟨h1, h2⟩ := h.rows r (List.mem_cons_of_mem _ hr)
    refine ⟨h1.heap (hg.block _ h1.lt (fun e => ?_)), h2⟩
    injection e with e
    exact hnd.1 (List.mem_map.2 ⟨r, hr, e⟩)
  · exact ((h.fs G hG).step ⟨hg.os, hg.tape, hg.output, hg.size, fun k hk hn => hg.block k hk (fun e => by
      injection e with e
      exact hn (by simp [e]))⟩).wider (fun k _ hk hm => hk (by simp [hm]))

end Go.Proofs.YthfonniieaiocaaGreatDoor
