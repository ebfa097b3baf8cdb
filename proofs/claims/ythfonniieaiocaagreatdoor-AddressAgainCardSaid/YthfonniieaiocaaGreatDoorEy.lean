/- A call's own rows, and facts that stay whatever is stored into them. Contracts: the law's agrees and invite; messages whose headers can be read. A drawn region with guards: one assertion for each operation. A drawn region of two loads and two stores: what comes of it. -/
import Derived.Test.YthfonniieaiocaaGreatDoorQb
import Derived.Test.YthfonniieaiocaaGreatDoorQd
import Derived.Test.YthfonniieaiocaaGreatDoorEd
import Derived.Test.YthfonniieaiocaaGreatDoorEg
import Derived.Laws.StructEq
set_option linter.unusedVariables false
set_option linter.unusedSimpArgs false
namespace Go.Proofs.YthfonniieaiocaaGreatDoor
open Go.RowKit

abbrev Blk := Nat × TypeId × List Value
/-- Beside the rows of L a world holds what another one held. -/
structure Agree (L : List Blk) (w w' : World) : Prop where
  os : w'.os = w.os
  tape : w'.tape = w.tape
  output : w'.output = w.output
  size : w.heap.size ≤ w'.heap.size
  block : ∀ k, k < w.heap.size → k ∉ L.map (·.1) → w'.heap[k]? = w.heap[k]?
def Stab (L : List Blk) (w : World) (F : World → Prop) : Prop := ∀ w', Agree L w w' → F w'
/-- The call's own rows, each known whole, and the facts that no store into them turns. -/
structure Mine (w0 w : World) (L : List Blk) (FS : List (World → Prop)) : Prop where
  bw : Below w0.heap.size w0 w
  rows : ∀ r ∈ L, Row w r.1 r.2.1 r.2.2 ∧ w0.heap.size ≤ r.1
  nd : (L.map (·.1)).Nodup
  fs : ∀ F ∈ FS, Stab L w F
section
variable {w0 w w' w'' : World} {L : List Blk} {FS : List (World → Prop)}
theorem Agree.refl (L : List Blk) (w : World) : Agree L w w := ⟨rfl, rfl, rfl, Nat.le_refl _, fun _ _ _ => rfl⟩
theorem Agree.trans (h : Agree L w w') (h2 : Agree L w' w'') : Agree L w w'' := ⟨h2.os.trans h.os, h2.tape.trans h.tape, h2.output.trans h.output, Nat.le_trans h.size h2.size, fun k hk hn => (h2.block k (Nat.lt_of_lt_of_le hk h.size) hn).trans (h.block k hk hn)⟩
theorem Agree.of_below (L : List Blk) (h : Below w.heap.size w w') : Agree L w w' := ⟨h.os, h.tape, h.output, h.size, fun k hk _ => h.block k hk⟩
theorem Stab.out {F : World → Prop} (h : Stab L w F) : F w := h w (Agree.refl _ _)
theorem Stab.step {F : World → Prop} (h : Stab L w F) (ha : Agree L w w') : Stab L w' F := fun w'' h2 => h w'' (ha.trans h2)
theorem Stab.wider {F : World → Prop} {L' : List Blk} (h : Stab L w F) (hb : ∀ k, k < w.heap.size → k ∉ L.map (·.1) → k ∉ L'.map (·.1)) : Stab L' w F := fun w' h2 => h w' ⟨h2.os, h2.tape, h2.output, h2.size, fun k hk hn => h2.block k hk (hb k hk hn)⟩
theorem Mine.refl (w : World) : Mine w w [] [] := ⟨Below.refl _ _, (fun _ h => by cases h), List.nodup_nil, fun _ h => by cases h⟩
theorem Mine.row {i b : Nat} {T : TypeId} {vs : List Value} (h : Mine w0 w L FS) (hi : L[i]? = some (b, T, vs)) : Row w b T vs := (h.rows _ (List.mem_of_getElem? hi)).1
theorem Mine.ge {i b : Nat} {T : TypeId} {vs : List Value} (h : Mine w0 w L FS) (hi : L[i]? = some (b, T, vs)) : w0.heap.size ≤ b := (h.rows _ (List.mem_of_getElem? hi)).2
theorem Mine.fact {i : Nat} {F : World → Prop} (h : Mine w0 w L FS) (hi : FS[i]? = some F) : F w := (h.fs _ (List.mem_of_getElem? hi)).out
theorem Mine.fresh {b : Nat} (h : Mine w0 w L FS) (hb : w.heap.size ≤ b) : b ∉ L.map (·.1) := fun hm => by
  obtain ⟨r, hr, rfl⟩ := List.mem_map.1 hm
  have := (h.rows r hr).1.lt
  omega
theorem Mine.call (h : Mine w0 w L FS) (hb : Below w.heap.size w w') : Mine w0 w' L FS :=
  ⟨bthen h.bw hb, fun r hr => ⟨(h.rows r hr).1.below hb, (h.rows r hr).2⟩, h.nd, fun F hF => (h.fs F hF).step (.of_below L hb)⟩
theorem Mine.drew (h : Mine w0 w L FS) : Mine w0 w.drew L FS := h.call (Below.refl _ _).drew
theorem Mine.add {F : World → Prop} (h : Mine w0 w L FS) (hF : Stab L w F) : Mine w0 w L (F :: FS) := ⟨h.bw, h.rows, h.nd, fun G hG => by
  rcases List.mem_cons.1 hG with rfl | hG
  · exact hF
  · exact h.fs G hG⟩
/-- A row more, that lies where nothing lay before. -/
theorem Mine.join {b : Nat} {T : TypeId} {vs : List Value} (h : Mine w0 w L FS) (hb : Below w.heap.size w w') (hg : w.heap.size ≤ b) (hr : Row w' b T vs) : Mine w0 w' ((b, T, vs) :: L) FS :=
  ⟨bthen h.bw hb, fun r hm => by
    rcases List.mem_cons.1 hm with rfl | hm
    · exact ⟨hr, Nat.le_trans h.bw.size hg⟩
    · exact ⟨(h.rows r hm).1.below hb, (h.rows r hm).2⟩, by
    rw [List.map_cons, List.nodup_cons]
    exact ⟨h.fresh hg, h.nd⟩, fun F hF w'' ha => h.fs F hF w'' ⟨ha.os.trans hb.os, ha.tape.trans hb.tape, ha.output.trans hb.output, Nat.le_trans hb.size ha.size, fun k hk hn => (ha.block k (Nat.lt_of_lt_of_le hk hb.size) (by
      rw [List.map_cons, List.mem_cons, not_or]
      exact ⟨by dsimp only; omega, hn⟩)).trans (hb.block k hk)⟩⟩
theorem Mine.alloc (h : Mine w0 w L FS) (T : TypeId) (vs : List Value) : Mine w0 (w.alloc (.cells vs.toArray T)) ((w.heap.size, T, vs) :: L) FS :=
  h.join ((Below.refl _ _).alloc (Nat.le_refl _) _) (Nat.le_refl _) (Row.new w T vs)
theorem map_set_fst {i b : Nat} {T : TypeId} {vs us : List Value} (hi : L[i]? = some (b, T, vs)) : (L.set i (b, T, us)).map (·.1) = L.map (·.1) := by
  rw [List.map_set]
  dsimp only
  refine List.ext_getElem? fun j => ?_
  rw [List.getElem?_set]
  split
  · rename_i e
    subst e
    have hl : i < L.length := (List.getElem?_eq_some_iff.1 hi).1
    rw [List.length_map, if_pos hl, List.getElem?_map, hi]
    rfl
  · rfl
theorem Mine.store {i b : Nat} {T : TypeId} {vs us : List Value} {L' : List Blk} (h : Mine w0 w L FS) (hi : L[i]? = some (b, T, vs)) (hL : L.set i (b, T, us) = L') (hr : Row w' b T us) (hB : Below w0.heap.size w0 w') (hH : w'.heap.size = w.heap.size ∧ ∀ b', b' ≠ b → w'.heap[b']? = w.heap[b']?) : Mine w0 w' L' FS := by
  subst hL
  have hm := map_set_fst (us := us) hi
  have hbm : b ∈ L.map (·.1) := List.mem_map.2 ⟨_, List.mem_of_getElem? hi, rfl⟩
  have hA : Agree L w w' := ⟨hB.os.trans h.bw.os.symm, hB.tape.trans h.bw.tape.symm, hB.output.trans h.bw.output.symm, by omega, fun k _ hn => hH.2 k (fun e => hn (e ▸ hbm))⟩
  refine ⟨hB, fun r hr' => ?_, by rw [hm]; exact h.nd, fun F hF => ((h.fs F hF).step hA).wider (fun k _ hn => by rw [hm]; exact hn)⟩
  rcases List.mem_or_eq_of_mem_set hr' with hr' | rfl
  · by_cases hrb : r.1 = b
    · obtain ⟨j, hj⟩ := List.mem_iff_getElem?.1 hr'
      have hl : i < L.length := (List.getElem?_eq_some_iff.1 hi).1
      obtain ⟨j', hj'⟩ := List.mem_iff_getElem?.1 hr'
      have hnd : ((L.set i (b, T, us)).map (·.1)).Nodup := by rw [hm]; exact h.nd
      obtain ⟨q, hq⟩ := List.mem_iff_getElem?.1 ‹r ∈ L.set i (b, T, us)›
      have h1 : ((L.set i (b, T, us)).map (·.1))[q]? = some b := by rw [List.getElem?_map, hq, ← hrb]; rfl
      have h2 : ((L.set i (b, T, us)).map (·.1))[i]? = some b := by rw [List.getElem?_map, List.getElem?_set_self hl]; rfl
      have hqi : q = i := by
        obtain ⟨l1, e1⟩ := List.getElem?_eq_some_iff.1 h1
        obtain ⟨l2, e2⟩ := List.getElem?_eq_some_iff.1 h2
        exact (List.getElem_inj hnd).1 (e1.trans e2.symm)
      subst hqi
      rw [List.getElem?_set_self hl] at hq
      injection hq with hq
      subst hq
      exact ⟨hr, h.ge hi⟩
    · exact ⟨((h.rows r hr').1).heap (hH.2 _ hrb), (h.rows r hr').2⟩
  · exact ⟨hr, h.ge hi⟩
theorem Mine.setCell {i b off : Nat} {T : TypeId} {vs : List Value} {L' : List Blk} (u : Value) (h : Mine w0 w L FS) (hi : L[i]? = some (b, T, vs)) (hL : L.set i (b, T, vs.set off u) = L') : Mine w0 (w.setCell ⟨b, off, none⟩ u) L' FS :=
  h.store hi hL ((h.row hi).set off u) (h.bw.setCell (h.ge hi) u) ⟨by simp [World.setCell], fun b' hb' => Below.heap_setCell w ⟨b, off, none⟩ u b' hb'⟩
/-- The first row goes among the facts' worlds: it is written no more. -/
theorem Mine.rest {r : Blk} (h : Mine w0 w (r :: L) FS) : Mine w0 w L ((fun W => Row W r.1 r.2.1 r.2.2) :: FS) :=
  ⟨h.bw, fun x hx => h.rows x (List.mem_cons_of_mem _ hx), (by have := h.nd; rw [List.map_cons, List.nodup_cons] at this; exact this.2), fun F hF w' ha => by
    have hnd := h.nd
    rw [List.map_cons, List.nodup_cons] at hnd
    rcases List.mem_cons.1 hF with rfl | hF
    · have hr := (h.rows r (List.mem_cons_self ..)).1
      exact hr.heap (ha.block _ hr.lt hnd.1)
    · exact h.fs F hF w' ⟨ha.os, ha.tape, ha.output, ha.size, fun k hk hn => ha.block k hk (fun hm => hn (by rw [List.map_cons]; exact List.mem_cons_of_mem _ hm))⟩⟩
theorem Mine.sub {L' : List Blk} (h : Mine w0 w L FS) (hs : ∀ r ∈ L', r ∈ L) (hn : (L'.map (·.1)).Nodup) : Mine w0 w L' FS :=
  ⟨h.bw, fun r hr => h.rows r (hs r hr), hn, fun F hF => (h.fs F hF).wider fun k _ hk hm => hk (by
    obtain ⟨r, hr, e⟩ := List.mem_map.1 hm
    exact List.mem_map.2 ⟨r, hs r hr, e⟩)⟩
theorem Mine.tail {r : Blk} (h : Mine w0 w (r :: L) FS) : Mine w0 w L FS := h.sub (fun x hx => List.mem_cons_of_mem _ hx) (by have := h.nd; rw [List.map_cons, List.nodup_cons] at this; exact this.2)
theorem stab_rds {A : Option Addr} {cs : List Value} (h : Rds w w.heap.size A cs) (hn : ∀ b o s, A = some ⟨b, o, s⟩ → b ∉ L.map (·.1)) : Stab L w (fun W => Rds W W.heap.size A cs) := fun w' ha hp => by
  obtain ⟨b, o, e, hb, hc⟩ := h hp
  refine ⟨b, o, e, Nat.lt_of_lt_of_le hb ha.size, fun j u hu => ?_⟩
  rw [World.cell?_of_block (w := w) (a := ⟨b, o + j, none⟩) (ha.block b hb (hn b o none e))]
  exact hc j u hu
end
section
variable {P : Program} {ops : Array Oper} {rest : List Oper} {op : Oper} {a : Act} {w0 w : World} {Q : Exit → Act → World → Prop}
theorem wpList_storeN (hgd : op.guard = none) (ty : TypeId) (x y : Operand) (ho : op.op = .store ty x y) (zs us : List Value) {T : TypeId}
    (hx : a.eval x = .pointer (some ⟨w.heap.size, 0, none⟩)) (hy : a.eval y = .agg us.toArray) (hl : zs.length = us.length) (hi : (P.info? ty).map (·.size) = some us.length) (h1 : ∀ u ∈ us, u.oneCell' = true)
    (h : ∀ w', Hid (Row w' w.heap.size T us) → Hid (Below w.heap.size w w') → wpList P ops Q rest (a.put op.dst undef) w') : wpList P ops Q (op :: rest) a (w.alloc (.cells zs.toArray T)) :=
  wpList_storeR hgd ty x y ho (Row.new w T zs) us hx hy hl hi h1 ((Below.refl w.heap.size w).alloc (Nat.le_refl _) _) (Nat.le_refl _) fun w' h1 h2 _ => h w' h1 h2
end
end Go.Proofs.YthfonniieaiocaaGreatDoor
namespace Go.Proofs.YthfonniieaiocaaGreatDoor
open Go.RowKit

abbrev INV : ByteArray := ⟨#[73, 78, 86, 73, 84, 69]⟩
abbrev SIPB : ByteArray := ⟨#[115, 105, 112, 58, 98, 64, 98, 46, 101, 120, 97, 109, 112, 108, 101]⟩
theorem allH_len (nm : List Int) : ∀ l : List (ByteArray × ByteArray), (allH l nm).length ≤ (l.map fun h => (elemsL (byteL h.2)).length + 1).sum
  | [] => Nat.zero_le _
  | h :: l => by
    have ih := allH_len nm l
    have h2 : allH (h :: l) nm = (if hitN (canonL nm) h = true then one1 nm h else []) ++ allH l nm := by
      rw [allH_eq, allH_eq, List.filter_cons]
      cases hitN (canonL nm) h with
      | true => rw [if_pos rfl, if_pos rfl, List.flatMap_cons]
      | false => rw [if_neg (by decide), if_neg (by decide), List.nil_append]
    have h3 : (one1 nm h).length ≤ (elemsL (byteL h.2)).length + 1 := by
      unfold one1
      split
      · omega
      · simp
    rw [h2, List.length_append, List.map_cons, List.sum_cons]
    split
    · omega
    · simp; omega
theorem HdOK.of {l : List (ByteArray × ByteArray)} {n : Nat} (hn : l.length = n) (hm : n ≤ 16000000) (hh : ∀ h ∈ l, h.1.size ≤ 4000000 ∧ h.2.size ≤ 4000000 ∧ (elemsL (byteL h.2)).isEmpty = false ∧ (byteL h.2).contains 91 = false) (ht : (l.map fun h => (elemsL (byteL h.2)).length + 1).sum ≤ 1000000) : HdOK l n :=
  ⟨hn, hm, fun h hm => ⟨(hh h hm).1, (hh h hm).2.1, (fun e => by have := (hh h hm).2.2.1; rw [e] at this; cases this), (fun e => by
    have h1 := (hh h hm).2.2.2
    rw [List.contains_eq_mem, decide_eq_true e] at h1
    cases h1)⟩, fun nm => Nat.le_trans (allH_len nm l) ht⟩
theorem HdOK.nil : HdOK [] 0 := ⟨rfl, by decide, (fun h hm => by cases hm), (fun nm => by unfold allH; simp)⟩
abbrev EXPN : ByteArray := ⟨#[83, 101, 115, 115, 105, 111, 110, 45, 69, 120, 112, 105, 114, 101, 115]⟩
abbrev SUPN : ByteArray := ⟨#[83, 117, 112, 112, 111, 114, 116, 101, 100]⟩
abbrev V1800 : ByteArray := ⟨#[49, 56, 48, 48]⟩
abbrev VTIM : ByteArray := ⟨#[116, 105, 109, 101, 114]⟩
def WH : List (ByteArray × ByteArray) := [(EXPN, V1800), (SUPN, VTIM)]
end Go.Proofs.YthfonniieaiocaaGreatDoor
namespace Go.Proofs.YthfonniieaiocaaGreatDoor
open Go.RowKit

section
variable {P : Program} {ops : Array Oper} {Q : Exit → Act → World → Prop}
end
section
variable {P : Program} {o : Oper} {a : Act} {w : World} {next : Act → World → Prop} {Q : Exit → Act → World → Prop}
theorem wp_fa1 (T : TypeId) (x : Operand) (k : Nat) (ho : o.op = .fieldAddr T x k) (b off : Nat) (hx : a.eval x = .pointer (some ⟨b, 0, none⟩)) (hr : ∀ w : World, (Instr.fieldAt T (.pointer (some ⟨b, 0, none⟩)) k).run P w = .ok (.pointer (some ⟨b, off, none⟩)) w)
    (hn : next (a.put o.dst (.pointer (some ⟨b, off, none⟩))) w) : o.wp P a w next Q :=
  wp_value _ (by unfold execOp; simp only [ho, hx, Sem.run_bind, hr, Result.andThen_ok]; rfl) hn
theorem wp_ldc1 (ty : TypeId) (x : Operand) (ho : o.op = .load ty x) (b off : Nat) (v : Value) (hx : a.eval x = .pointer (some ⟨b, off, none⟩)) (hc : w.cell? ⟨b, off, none⟩ = some v) (d : TypeDesc) (hu : P.underlying ty = some d) (hd : d.isRow = false)
    (hn : next (a.put o.dst v) w) : o.wp P a w next Q :=
  wp_value v (by
    have hagg : (isAgg ty).run P w = .ok false w := by
      unfold isAgg
      rw [Sem.run_bind, run_underlying hu w]
      cases d <;> simp_all
    have hl : (loadVar ty ⟨b, off, none⟩).run P w = .ok v w := by
      simp [loadVar, Sem.run_bind, hagg, hc]
    unfold execOp
    simp only [ho, hx, Instr.loadAt, Instr.sureAddr, Sem.run_bind, Sem.run_pure, Result.andThen_ok, hl]) hn
end
end Go.Proofs.YthfonniieaiocaaGreatDoor
namespace Go.Proofs.YthfonniieaiocaaGreatDoor
open Go.RowKit

theorem size_setCells : ∀ (us : List Value) (b o : Nat) (w : World), (w.setCells b o us).heap.size = w.heap.size
  | [], _, _, _ => rfl
  | u :: us, b, o, w => by
    show ((w.setCell ⟨b, o, none⟩ u).setCells b (o + 1) us).heap.size = _
    rw [size_setCells us b (o + 1) _]
    simp
end Go.Proofs.YthfonniieaiocaaGreatDoor
