/- A call's own rows, and facts that stay whatever is stored into them. Nonces issued one after another; what Verify answers where a guard keeps several (plain). -/
import Derived.Test.YtfhbpgickkibmaaGreatDoorQb
import Derived.Test.YtfhbpgickkibmaaGreatDoorCt
import Derived.Test.YtfhbpgickkibmaaGreatDoorTd
namespace Go.Proofs.YtfhbpgickkibmaaGreatDoor
open Go.RowKit

abbrev Blk := Nat × TypeId × List Value
/-- Beside the rows of L a world holds what another one held. -/
structure Agree (L : List Blk) (w w' : World) : Prop where
  os : w'.os = w.os
  tape : w'.tape = w.tape
  output : w'.output = w.output
  size : w.heap.size ≤ w'.heap.size
  block : ∀ k, k < w.heap.size → k ∉ L.map (·.1) → w'.heap[k]? = w.heap[k]?
def Stab (L : List Blk) (w : World) (F : World → Prop) : Prop := ∀ w', Agree L w w' → F w'
/-- The call's own rows, each known whole, and the facts that no store into them turns. -/
structure Mine (w0 w : World) (L : List Blk) (FS : List (World → Prop)) : Prop where
  bw : Below w0.heap.size w0 w
  rows : ∀ r ∈ L, Row w r.1 r.2.1 r.2.2 ∧ w0.heap.size ≤ r.1
  nd : (L.map (·.1)).Nodup
  fs : ∀ F ∈ FS, Stab L w F
section
variable {w0 w w' w'' : World} {L : List Blk} {FS : List (World → Prop)}
theorem Agree.refl (L : List Blk) (w : World) : Agree L w w := ⟨rfl, rfl, rfl, Nat.le_refl _, fun _ _ _ => rfl⟩
theorem Agree.trans (h : Agree L w w') (h2 : Agree L w' w'') : Agree L w w'' := ⟨h2.os.trans h.os, h2.tape.trans h.tape, h2.output.trans h.output, Nat.le_trans h.size h2.size, fun k hk hn => (h2.block k (Nat.lt_of_lt_of_le hk h.size) hn).trans (h.block k hk hn)⟩
theorem Agree.of_below (L : List Blk) (h : Below w.heap.size w w') : Agree L w w' := ⟨h.os, h.tape, h.output, h.size, fun k hk _ => h.block k hk⟩
theorem Stab.out {F : World → Prop} (h : Stab L w F) : F w := h w (Agree.refl _ _)
theorem Stab.step {F : World → Prop} (h : Stab L w F) (ha : Agree L w w') : Stab L w' F := fun w'' h2 => h w'' (ha.trans h2)
theorem Stab.wider {F : World → Prop} {L' : List Blk} (h : Stab L w F) (hb : ∀ k, k < w.heap.size → k ∉ L.map (·.1) → k ∉ L'.map (·.1)) : Stab L' w F := fun w' h2 => h w' ⟨h2.os, h2.tape, h2.output, h2.size, fun k hk hn => h2.block k hk (hb k hk hn)⟩
theorem Mine.refl (w : World) : Mine w w [] [] := ⟨Below.refl _ _, (fun _ h => by cases h), List.nodup_nil, fun _ h => by cases h⟩
theorem Mine.row {i b : Nat} {T : TypeId} {vs : List Value} (h : Mine w0 w L FS) (hi : L[i]? = some (b, T, vs)) : Row w b T vs := (h.rows _ (List.mem_of_getElem? hi)).1
theorem Mine.ge {i b : Nat} {T : TypeId} {vs : List Value} (h : Mine w0 w L FS) (hi : L[i]? = some (b, T, vs)) : w0.heap.size ≤ b := (h.rows _ (List.mem_of_getElem? hi)).2
theorem Mine.fact {i : Nat} {F : World → Prop} (h : Mine w0 w L FS) (hi : FS[i]? = some F) : F w := (h.fs _ (List.mem_of_getElem? hi)).out
theorem Mine.fresh {b : Nat} (h : Mine w0 w L FS) (hb : w.heap.size ≤ b) : b ∉ L.map (·.1) := fun hm => by
  obtain ⟨r, hr, rfl⟩ := List.mem_map.1 hm
  have := (h.rows r hr).1.lt
  omega
theorem Mine.call (h : Mine w0 w L FS) (hb : Below w.heap.size w w') : Mine w0 w' L FS :=
  ⟨bthen h.bw hb, fun r hr => ⟨(h.rows r hr).1.below hb, (h.rows r hr).2⟩, h.nd, fun F hF => (h.fs F hF).step (.of_below L hb)⟩
theorem Mine.drew (h : Mine w0 w L FS) : Mine w0 w.drew L FS := h.call (Below.refl _ _).drew
theorem Mine.add {F : World → Prop} (h : Mine w0 w L FS) (hF : Stab L w F) : Mine w0 w L (F :: FS) := ⟨h.bw, h.rows, h.nd, fun G hG => by
  rcases List.mem_cons.1 hG with rfl | hG
  · exact hF
  · exact h.fs G hG⟩
/-- A row more, that lies where nothing lay before. -/
theorem Mine.join {b : Nat} {T : TypeId} {vs : List Value} (h : Mine w0 w L FS) (hb : Below w.heap.size w w') (hg : w.heap.size ≤ b) (hr : Row w' b T vs) : Mine w0 w' ((b, T, vs) :: L) FS :=
  ⟨bthen h.bw hb, fun r hm => by
    rcases List.mem_cons.1 hm with rfl | hm
    · exact ⟨hr, Nat.le_trans h.bw.size hg⟩
    · exact ⟨(h.rows r hm).1.below hb, (h.rows r hm).2⟩, by
    rw [List.map_cons, List.nodup_cons]
    exact ⟨h.fresh hg, h.nd⟩, fun F hF w'' ha => h.fs F hF w'' ⟨ha.os.trans hb.os, ha.tape.trans hb.tape, ha.output.trans hb.output, Nat.le_trans hb.size ha.size, fun k hk hn => (ha.block k (Nat.lt_of_lt_of_le hk hb.size) (by
      rw [List.map_cons, List.mem_cons, not_or]
      exact ⟨by dsimp only; omega, hn⟩)).trans (hb.block k hk)⟩⟩
theorem Mine.alloc (h : Mine w0 w L FS) (T : TypeId) (vs : List Value) : Mine w0 (w.alloc (.cells vs.toArray T)) ((w.heap.size, T, vs) :: L) FS :=
  h.join ((Below.refl _ _).alloc (Nat.le_refl _) _) (Nat.le_refl _) (Row.new w T vs)
theorem map_set_fst {i b : Nat} {T : TypeId} {vs us : List Value} (hi : L[i]? = some (b, T, vs)) : (L.set i (b, T, us)).map (·.1) = L.map (·.1) := by
  rw [List.map_set]
  dsimp only
  refine List.ext_getElem? fun j => ?_
  rw [List.getElem?_set]
  split
  · rename_i e
    subst e
    have hl : i < L.length := (List.getElem?_eq_some_iff.1 hi).1
    rw [List.length_map, if_pos hl, List.getElem?_map, hi]
    rfl
  · rfl
theorem Mine.store {i b : Nat} {T : TypeId} {vs us : List Value} {L' : List Blk} (h : Mine w0 w L FS) (hi : L[i]? = some (b, T, vs)) (hL : L.set i (b, T, us) = L') (hr : Row w' b T us) (hB : Below w0.heap.size w0 w') (hH : w'.heap.size = w.heap.size ∧ ∀ b', b' ≠ b → w'.heap[b']? = w.heap[b']?) : Mine w0 w' L' FS := by
  subst hL
  have hm := map_set_fst (us := us) hi
  have hbm : b ∈ L.map (·.1) := List.mem_map.2 ⟨_, List.mem_of_getElem? hi, rfl⟩
  have hA : Agree L w w' := ⟨hB.os.trans h.bw.os.symm, hB.tape.trans h.bw.tape.symm, hB.output.trans h.bw.output.symm, by omega, fun k _ hn => hH.2 k (fun e => hn (e ▸ hbm))⟩
  refine ⟨hB, fun r hr' => ?_, by rw [hm]; exact h.nd, fun F hF => ((h.fs F hF).step hA).wider (fun k _ hn => by rw [hm]; exact hn)⟩
  rcases List.mem_or_eq_of_mem_set hr' with hr' | rfl
  · by_cases hrb : r.1 = b
    · obtain ⟨j, hj⟩ := List.mem_iff_getElem?.1 hr'
      have hl : i < L.length := (List.getElem?_eq_some_iff.1 hi).1
      obtain ⟨j', hj'⟩ := List.mem_iff_getElem?.1 hr'
      have hnd : ((L.set i (b, T, us)).map (·.1)).Nodup := by rw [hm]; exact h.nd
      obtain ⟨q, hq⟩ := List.mem_iff_getElem?.1 ‹r ∈ L.set i (b, T, us)›
      have h1 : ((L.set i (b, T, us)).map (·.1))[q]? = some b := by rw [List.getElem?_map, hq, ← hrb]; rfl
      have h2 : ((L.set i (b, T, us)).map (·.1))[i]? = some b := by rw [List.getElem?_map, List.getElem?_set_self hl]; rfl
      have hqi : q = i := by
        obtain ⟨l1, e1⟩ := List.getElem?_eq_some_iff.1 h1
        obtain ⟨l2, e2⟩ := List.getElem?_eq_some_iff.1 h2
        exact (List.getElem_inj hnd).1 (e1.trans e2.symm)
      subst hqi
      rw [List.getElem?_set_self hl] at hq
      injection hq with hq
      subst hq
      exact ⟨hr, h.ge hi⟩
    · exact ⟨((h.rows r hr').1).heap (hH.2 _ hrb), (h.rows r hr').2⟩
  · exact ⟨hr, h.ge hi⟩
theorem Mine.setCell {i b off : Nat} {T : TypeId} {vs : List Value} {L' : List Blk} (u : Value) (h : Mine w0 w L FS) (hi : L[i]? = some (b, T, vs)) (hL : L.set i (b, T, vs.set off u) = L') : Mine w0 (w.setCell ⟨b, off, none⟩ u) L' FS :=
  h.store hi hL ((h.row hi).set off u) (h.bw.setCell (h.ge hi) u) ⟨by simp [World.setCell], fun b' hb' => Below.heap_setCell w ⟨b, off, none⟩ u b' hb'⟩
/-- The first row goes among the facts' worlds: it is written no more. -/
theorem Mine.rest {r : Blk} (h : Mine w0 w (r :: L) FS) : Mine w0 w L ((fun W => Row W r.1 r.2.1 r.2.2) :: FS) :=
  ⟨h.bw, fun x hx => h.rows x (List.mem_cons_of_mem _ hx), (by have := h.nd; rw [List.map_cons, List.nodup_cons] at this; exact this.2), fun F hF w' ha => by
    have hnd := h.nd
    rw [List.map_cons, List.nodup_cons] at hnd
    rcases List.mem_cons.1 hF with rfl | hF
    · have hr := (h.rows r (List.mem_cons_self ..)).1
      exact hr.heap (ha.block _ hr.lt hnd.1)
    · exact h.fs F hF w' ⟨ha.os, ha.tape, ha.output, ha.size, fun k hk hn => ha.block k hk (fun hm => hn (by rw [List.map_cons]; exact List.mem_cons_of_mem _ hm))⟩⟩
theorem Mine.sub {L' : List Blk} (h : Mine w0 w L FS) (hs : ∀ r ∈ L', r ∈ L) (hn : (L'.map (·.1)).Nodup) : Mine w0 w L' FS :=
  ⟨h.bw, fun r hr => h.rows r (hs r hr), hn, fun F hF => (h.fs F hF).wider fun k _ hk hm => hk (by
    obtain ⟨r, hr, e⟩ := List.mem_map.1 hm
    exact List.mem_map.2 ⟨r, hs r hr, e⟩)⟩
theorem Mine.tail {r : Blk} (h : Mine w0 w (r :: L) FS) : Mine w0 w L FS := h.sub (fun x hx => List.mem_cons_of_mem _ hx) (by have := h.nd; rw [List.map_cons, List.nodup_cons] at this; exact this.2)
theorem stab_rds {A : Option Addr} {cs : List Value} (h : Rds w w.heap.size A cs) (hn : ∀ b o s, A = some ⟨b, o, s⟩ → b ∉ L.map (·.1)) : Stab L w (fun W => Rds W W.heap.size A cs) := fun w' ha hp => by
  obtain ⟨b, o, e, hb, hc⟩ := h hp
  refine ⟨b, o, e, Nat.lt_of_lt_of_le hb ha.size, fun j u hu => ?_⟩
  rw [World.cell?_of_block (w := w) (a := ⟨b, o + j, none⟩) (ha.block b hb (hn b o none e))]
  exact hc j u hu
theorem stab_row {b : Nat} {T : TypeId} {vs : List Value} (h : Row w b T vs) (hn : b ∉ L.map (·.1)) : Stab L w (fun W => Row W b T vs) := fun w' ha => h.heap (ha.block b h.lt hn)
theorem stab_bs {A : Option Addr} {xs : List Int} (h : Bs w w.heap.size A xs) (hn : ∀ ad, A = some ad → ad.block ∉ L.map (·.1)) : Stab L w (fun W => Bs W W.heap.size A xs) := fun w' ha hp => by
  obtain ⟨ad, e, hb, hc⟩ := h hp
  refine ⟨ad, e, Nat.lt_of_lt_of_le hb ha.size, fun j u hu => ?_⟩
  rw [World.cell?_of_block (w := w) (a := ad.add j) (by rw [add_block]; exact ha.block _ hb (hn ad e))]
  exact hc j u hu
end
section
variable {P : Program} {ops : Array Oper} {rest : List Oper} {op : Oper} {a : Act} {w0 w : World} {Q : Exit → Act → World → Prop}
theorem wpList_storeN (hgd : op.guard = none) (ty : TypeId) (x y : Operand) (ho : op.op = .store ty x y) (zs us : List Value) {T : TypeId}
    (hx : a.eval x = .pointer (some ⟨w.heap.size, 0, none⟩)) (hy : a.eval y = .agg us.toArray) (hl : zs.length = us.length) (hi : (P.info? ty).map (·.size) = some us.length) (h1 : ∀ u ∈ us, u.oneCell' = true)
    (h : ∀ w', Hid (Row w' w.heap.size T us) → Hid (Below w.heap.size w w') → wpList P ops Q rest (a.put op.dst undef) w') : wpList P ops Q (op :: rest) a (w.alloc (.cells zs.toArray T)) :=
  wpList_storeR hgd ty x y ho (Row.new w T zs) us hx hy hl hi h1 ((Below.refl w.heap.size w).alloc (Nat.le_refl _) _) (Nat.le_refl _) fun w' h1 h2 _ => h w' h1 h2
theorem wpList_storeS {L : List Blk} {FS : List (World → Prop)} (hS : Mine w0 w L FS) (i : Nat) (hgd : op.guard = none) (ty : TypeId) (x y : Operand) (ho : op.op = .store ty x y) {b : Nat} {T : TypeId} {vs : List Value} (us : List Value) (L' : List Blk) (hi : L[i]? = some (b, T, vs)) (hL : L.set i (b, T, us) = L')
    (hx : a.eval x = .pointer (some ⟨b, 0, none⟩)) (hy : a.eval y = .agg us.toArray) (hl : vs.length = us.length) (hz : (P.info? ty).map (·.size) = some us.length) (h1 : ∀ u ∈ us, u.oneCell' = true)
    (h : ∀ w', Hid (Mine w0 w' L' FS) → wpList P ops Q rest (a.put op.dst undef) w') : wpList P ops Q (op :: rest) a w :=
  wpList_storeR hgd ty x y ho (hS.row hi) us hx hy hl hz h1 hS.bw (hS.ge hi) fun w' k1 k2 k3 => h w' (Lib.hid (hS.store hi hL k1.out k2.out k3.out))
end
end Go.Proofs.YtfhbpgickkibmaaGreatDoor
namespace Go.Proofs.YtfhbpgickkibmaaGreatDoor
open Go.RowKit

def Rr : ByteArray := ⟨#[114]⟩
def Kk : ByteArray := ⟨#[107]⟩
def NNk (s : Int) (j : Nat) : Nce := ⟨txtI Kk j (j * s), j * s, 0⟩
def NNs (s : Int) (i : Nat) : List Nce := ((List.range i).map (NNk s)).drop (i - 64)
theorem txt_clean (ke : ByteArray) (iss now : Int) : clean (byteL (txtI ke iss now)) = true := by unfold txtI; rw [byteL_str (hashL_by _)]; exact clean_hash _
theorem txt_size (ke : ByteArray) (iss now : Int) : (txtI ke iss now).size = 64 := by unfold txtI; rw [num_size]; exact hashL_len _
end Go.Proofs.YtfhbpgickkibmaaGreatDoor
