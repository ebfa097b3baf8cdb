/- Contracts of the reference's reader: fail, is, until. Contract of the reference's reader: content. Contracts: the reference's room, Sorted. Contract: the reference's Sorted. Contract: the reference's reader: param. Contract: the reference's reader: param. -/
import Derived.Test.YthfonniieaiocaaGreatDoorWp
import Derived.Test.YthfonniieaiocaaGreatDoorYa
import Derived.BigQuiet
import Derived.Test.YthfonniieaiocaaGreatDoorUq
import Derived.Test.YthfonniieaiocaaGreatDoorWt
set_option linter.unusedVariables false
set_option linter.unusedSimpArgs false
namespace Go.Proofs.YthfonniieaiocaaGreatDoor
open Go.RowKit

def rdC (s : ByteArray) (i : Nat) (q : Nat × Int) : List Value := [.string s, .int .i64 (i : Nat), .int .i64 (q.1 : Nat), .int .u8 q.2]
abbrev RdR (w : World) (b : Nat) (s : ByteArray) (i : Nat) (q : Nat × Int) : Prop := Row w b 93 (rdC s i q)
structure RdX (w : World) (b : Nat) (s : ByteArray) (i : Nat) (q : Nat × Int) (w' : World) : Prop where
  r : RdR w' b s i q
  g : w.grownBy w' (some b)
def failQ (q : Nat × Int) (n : Nat) (k : Int) : Nat × Int := if q.2 = 0 then (n, k) else q
section
variable {w w1 w2 : World} {b i j : Nat} {s : ByteArray} {q q' : Nat × Int}
theorem rgr_refl (w : World) (r : Option Nat) : w.grownBy w r := ⟨rfl, rfl, rfl, Nat.le_refl _, fun _ _ _ => rfl⟩
theorem rgr_trans {r : Option Nat} (h : w.grownBy w1 r) (h2 : w1.grownBy w2 r) : w.grownBy w2 r := ⟨h2.os.trans h.os, h2.tape.trans h.tape, h2.output.trans h.output, Nat.le_trans h.size h2.size, fun k hk hn => (h2.block k (Nat.lt_of_lt_of_le hk h.size) hn).trans (h.block k hk hn)⟩
theorem rgr_below {r : Option Nat} (h : Below w.heap.size w w1) : w.grownBy w1 r := ⟨h.os, h.tape, h.output, h.size, fun k hk _ => h.block k hk⟩
theorem rgr_set (w : World) (b o : Nat) (v : Value) : w.grownBy (w.setCell ⟨b, o, none⟩ v) (some b) := ⟨rfl, rfl, rfl, by simp [World.setCell], fun k _ hn => Below.heap_setCell w ⟨b, o, none⟩ v k (fun e => hn (by rw [e]))⟩
theorem RdX.refl (h : RdR w b s i q) : RdX w b s i q w := ⟨h, rgr_refl _ _⟩
theorem RdX.then (h : RdX w b s i q w1) (h2 : RdX w1 b s j q' w2) : RdX w b s j q' w2 := ⟨h2.r, rgr_trans h.g h2.g⟩
theorem RdX.call (h : RdX w b s i q w1) (hb : Below w1.heap.size w1 w2) : RdX w b s i q w2 := ⟨h.r.below hb, rgr_trans h.g (rgr_below hb)⟩
theorem RdX.at (h : RdX w b s i q w1) (j : Nat) : RdX w b s j q (w1.setCell ⟨b, 1, none⟩ (.int .i64 (j : Nat))) := ⟨h.r.set 1 _, rgr_trans h.g (rgr_set _ _ _ _)⟩
theorem RdX.lt (h : RdX w b s i q w1) : b < w1.heap.size := h.r.lt
end
end Go.Proofs.YthfonniieaiocaaGreatDoor
namespace Go.Proofs.YthfonniieaiocaaGreatDoor
open Go.RowKit

def CtP (w : World) (b : Nat) (s : ByteArray) (i te : Nat) (q : Nat × Int) (W : Option Nat) (T : List Int) (e : Ending) (w' : World) : Prop := match W with
  | none => e = .returned (.string (strOfNums T)) ∧ RdX w b s te q w'
  | some p => e = .returned (.string ⟨#[]⟩) ∧ RdX w b s i (failQ q p 5) w'
theorem CtP.bad {w w' : World} {b i te : Nat} {s : ByteArray} {q : Nat × Int} {W : Option Nat} {T : List Int} {p : Nat} (h : W = some p) (hr : RdX w b s i (failQ q p 5) w') : CtP w b s i te q W T (.returned (.string ⟨#[]⟩)) w' := by subst h; exact ⟨rfl, hr⟩
theorem CtP.good {w w' : World} {b i te : Nat} {s : ByteArray} {q : Nat × Int} {W : Option Nat} {T L : List Int} (h : W = none) (hL : L = T) (hr : RdX w b s te q w') : CtP w b s i te q W T (.returned (.string (strOfNums L))) w' := by subst h; subst hL; exact ⟨rfl, hr⟩
end Go.Proofs.YthfonniieaiocaaGreatDoor
namespace Go.Proofs.YthfonniieaiocaaGreatDoor
open Go.RowKit

def toPrm (p : Pm) : Prm := ⟨p.n, p.v, p.h⟩
theorem prms_pms (l : List Pm) : prms (l.map toPrm) = pms l := by
  unfold prms pms
  rw [List.flatMap_map]; rfl
def roomF (l : List Pm) (nm : List Int) : Int := if (l.any fun p => lowS p.n == lowS nm) = true then 7 else if 16 ≤ l.length then 4 else 0
theorem findP_any (l : List Pm) (nm : List Int) : decide (0 ≤ findV (findP (l.map toPrm) nm)) = l.any fun p => lowS p.n == lowS nm := by
  rcases find_spec (l.map toPrm) nm with ⟨h1, h2⟩ | ⟨i, p, h1, h2, h3⟩
  · rw [h1]
    symm
    rw [show decide (0 ≤ findV none) = false by decide, List.any_eq_false]
    intro p hp
    have := List.find?_eq_none.1 h2 (toPrm p) (List.mem_map.2 ⟨p, hp, rfl⟩)
    exact this
  · rw [h1]
    symm
    rw [show decide (0 ≤ findV (some i)) = true by unfold findV; simp, List.any_eq_true]
    have hm := List.mem_of_find?_eq_some h3
    obtain ⟨q, hq, rfl⟩ := List.mem_map.1 hm
    have h4 := List.find?_some (p := fun p : Prm => lowS p.n == lowS nm) h3
    exact ⟨q, hq, h4⟩
set_option maxRecDepth 100000 in
theorem rroom_any (A : Option Addr) (n c : Nat) (l : List Pm) (nm : List Int) (w : World) (hA : Rds w w.heap.size A (pms l)) (hn : l.length = n) (hl : ∀ p ∈ l, pmSz p) (hN : n ≤ 16000000) (hb : By nm) (hs : nm.length ≤ 4000000) :
    Calls Tryz.prog 115 #[.slice A n c, .string (strOfNums nm)] w fun e w' => e = .returned (.int .u8 (roomF l nm)) ∧ Below w.heap.size w w' := by
  have FA := find_any A n c (l.map toPrm) (strOfNums nm) w (by rw [prms_pms]; exact hA) (by rw [List.length_map]; exact hn) (fun p hp => by
    obtain ⟨q, hq, rfl⟩ := List.mem_map.1 hp
    exact hl q hq) hN (by rw [num_size]; exact hs)
  rw [byteL_str hb] at FA
  have FN := kd FA
  have FE := findP_any l nm
  have E := kd (show roomF l nm = if (l.any fun p => lowS p.n == lowS nm) = true then 7 else if 16 ≤ n then 4 else 0 by subst hn; rfl)
  generalize findV (findP (l.map toPrm) nm) = fv at *
  generalize (l.any fun p => lowS p.n == lowS nm) = a at *
  generalize roomF l nm = R at *
  clear FA hA hn hl
  go_enter Tryz.func115, Tryz.ntmps115
  go_wp2_with fail
  refine FN.out.mono ?_
  rintro _ w1 ⟨rfl, hb1⟩
  have B1 := kd hb1
  clear hb1 FN
  cases a with
  | true =>
    have E2 := kd (show R = 7 from E.out)
    clear E
    go_wp2_with fail
    go_ret
    exact ⟨by rw [E2.out]; rfl, B1.out⟩
  | false =>
    by_cases h16 : 16 ≤ n
    · have E2 := kd (show R = 4 by rw [E.out, if_neg (by decide), if_pos h16])
      have d1 : decide ((16 : Int) ≤ (n : Int)) = true := by simp; omega
      clear E
      go_wp2_with fail
      go_ret
      exact ⟨by rw [E2.out]; rfl, B1.out⟩
    · have E2 := kd (show R = 0 by rw [E.out, if_neg (by decide), if_neg h16])
      have d1 : decide ((16 : Int) ≤ (n : Int)) = false := by simp; omega
      clear E
      go_wp2_with fail
      go_ret
      exact ⟨by rw [E2.out]; rfl, B1.out⟩
theorem VX.cap {w w' : World} {v : Value} {n : Nat} {cs : List Value} (X : VX 56 3 w v n cs w') : ∃ A c, v = .slice A n c ∧ n ≤ c ∧ c ≤ maxLen ∧ (A = none → c = 0) ∧ Rds w' w'.heap.size A cs := by
  have hl := X.o.1
  rcases X.o.2 with ⟨rfl, rfl⟩ | ⟨g, cap, cur, rfl, hb, hg, hc, hm, hs, ht⟩
  · exact ⟨none, 0, rfl, Nat.le_refl _, Nat.zero_le _, fun _ => rfl, fun h => by rw [List.eq_nil_of_length_eq_zero (l := cs) (by simpa using hl)] at h; simp at h⟩
  · refine ⟨some ⟨g, 0, none⟩, cap, rfl, hc, hm, (fun h => by cases h), fun _ => ?_⟩
    rcases X.form with ⟨h1, _⟩ | ⟨g', cap', h1, _, _, h4, h5⟩
    · cases h1
    · cases h1
      exact ⟨g, 0, rfl, h4, fun j u hu => by rw [Nat.zero_add]; exact h5 j u hu⟩
theorem wpList_appNone {w : World} {ops : Array Oper} {rest : List Oper} {o : Oper} {a : Act} {Q : Exit → Act → World → Prop} (hgd : o.guard = none) (s x : Operand)
    (ho : o.op = .call { callee := .builtin .append, args := #[s, x], argTypes := #[30, 30] }) {w0 : World} {v : Value} {n : Nat} {cs : List Value} (X : VX 56 3 w0 v n cs w) (hs : a.eval s = v) (A : Option Addr) (c : Nat) (hx : a.eval x = .slice A 0 c)
    (h : wpList Tryz.prog ops Q rest (a.put o.dst v) w) : wpList Tryz.prog ops Q (o :: rest) a w := by
  obtain ⟨i, hi, hz, hsz, hbt⟩ := infoPm
  refine wpList_value hgd _ w ?_ h
  unfold execOp
  rcases X.o.2 with ⟨rfl, rfl⟩ | ⟨g, cap, cur, rfl, hb, hg, hc, hm, hs', ht⟩
  · cases A with
    | none => simp [ho, resolve, invoke, builtin, hs, hx, Builtin.append_, run_underlying Tryz.underlying30, sizeOf, typeInfo, hi, Builtin.lenOf, Builtin.firstCells, loadCells, loadCellsFrom, Sem.run_bind, Result.andThen_ok]
    | some b => simp [ho, resolve, invoke, builtin, hs, hx, Builtin.append_, run_underlying Tryz.underlying30, sizeOf, typeInfo, hi, Builtin.lenOf, Builtin.firstCells, loadCells, loadCellsFrom, Sem.run_bind, Result.andThen_ok]
  · cases A with
    | none => simp [ho, resolve, invoke, builtin, hs, hx, Builtin.append_, run_underlying Tryz.underlying30, sizeOf, typeInfo, hi, Builtin.lenOf, Builtin.firstCells, loadCells, loadCellsFrom, Sem.run_bind, Result.andThen_ok, hc]; rfl
    | some b => simp [ho, resolve, invoke, builtin, hs, hx, Builtin.append_, run_underlying Tryz.underlying30, sizeOf, typeInfo, hi, Builtin.lenOf, Builtin.firstCells, loadCells, loadCellsFrom, Sem.run_bind, Result.andThen_ok, hc]; rfl
theorem wpList_appPm {w wr : World} {ops : Array Oper} {rest : List Oper} {o : Oper} {a : Act} {Q : Exit → Act → World → Prop} (hgd : o.guard = none) (s x : Operand)
    (ho : o.op = .call { callee := .builtin .append, args := #[s, x], argTypes := #[30, 30] }) {v : Value} {l : List Pm} (hs : a.eval s = v) (H : VX 56 3 w v l.length (pms l) wr)
    (k : List Pm) (A : Option Addr) (m c : Nat) (hm : k.length = m) (hx : a.eval x = .slice A m c) (hR : Rds wr wr.heap.size A (pms k)) (hb : l.length + k.length ≤ 16000000)
    (h : ∀ v' w', Hid (VX 56 3 w v' (l ++ k).length (pms (l ++ k)) w') → wpList Tryz.prog ops Q rest (a.put o.dst v') w') : wpList Tryz.prog ops Q (o :: rest) a wr := by
  obtain ⟨i, hi, hz, hsz, hbt⟩ := infoPm
  subst hm
  by_cases h0 : k = []
  · subst h0
    exact wpList_appNone hgd s x ho H hs A c hx (h _ _ (kd (by rw [List.append_nil]; exact H)))
  · have hpos : 0 < (pms k).length := by
      rw [pms_len]
      cases k with
      | nil => exact absurd rfl h0
      | cons p r => rw [List.length_cons]; omega
    obtain ⟨b, o', rfl, _, hc⟩ := hR hpos
    refine wpList_append_own _ hgd s x 30 ho w.heap.size 56 i _ 3 40 Tryz.underlying30 hi hz hsz hbt rfl (by omega) v l.length (pms l) hs H.o ⟨b, o', none⟩ k.length c (pms k) hx (pms_len k) (fun j u hu => ?_) (pms_one k) (by unfold maxLen; omega) (by omega) H.bw.size ?_
    · rw [Addr.add_mid]; exact hc j u hu
    · intro v' w' h2 h3 _
      refine h v' w' (kd ⟨?_, H.bw.grown h3 H.bw.size (own_block H.o)⟩)
      rw [List.length_append, show pms (l ++ k) = pms l ++ pms k by unfold pms; rw [List.flatMap_append]]
      exact h2
end Go.Proofs.YthfonniieaiocaaGreatDoor
namespace Go.Proofs.YthfonniieaiocaaGreatDoor
open Go.RowKit

theorem VX.capf {w w' : World} {v : Value} {n : Nat} {cs : List Value} (X : VX 56 3 w v n cs w') : ∃ A c, v = .slice A n c ∧ n ≤ c ∧ c ≤ maxLen ∧ ((A = none ∧ c = 0) ∨ ∃ g, A = some ⟨g, 0, none⟩) ∧ Rds w' w'.heap.size A cs := by
  obtain ⟨A, c, h1, h2, h3, h4, h5⟩ := X.cap
  refine ⟨A, c, h1, h2, h3, ?_, h5⟩
  rcases X.o.2 with ⟨rfl, _⟩ | ⟨g, cap, cur, rfl, _⟩
  · cases h1; exact .inl ⟨rfl, rfl⟩
  · cases h1; exact .inr ⟨g, rfl⟩
end Go.Proofs.YthfonniieaiocaaGreatDoor
namespace Go.Proofs.YthfonniieaiocaaGreatDoor
open Go.RowKit

structure PX (w : World) (b : Nat) (s : ByteArray) (i : Nat) (q : Nat × Int) (L : List Blk) (w' : World) : Prop where
  r : RdR w' b s i q
  g : w.grownBy w' (some b)
  k : ∀ r ∈ L, Row w' r.1 r.2.1 r.2.2
  n : ∀ r ∈ L, w.heap.size ≤ r.1
  lt : b < w.heap.size
section
variable {w w1 w2 : World} {b i j : Nat} {s : ByteArray} {q q' : Nat × Int} {L : List Blk}
theorem PX.start (h : RdR w b s i q) : PX w b s i q [] w := ⟨h, rgr_refl _ _, (fun r hr => by cases hr), (fun r hr => by cases hr), h.lt⟩
theorem PX.end (h : PX w b s i q L w1) : RdX w b s i q w1 := ⟨h.r, h.g⟩
theorem PX.call (h : PX w b s i q L w1) (hb : Below w1.heap.size w1 w2) : PX w b s i q L w2 := ⟨h.r.below hb, rgr_trans h.g (rgr_below hb), fun r hr => (h.k r hr).below hb, h.n, h.lt⟩
theorem PX.then (h : PX w b s i q L w1) (h2 : RdX w1 b s j q' w2) : PX w b s j q' L w2 := ⟨h2.r, rgr_trans h.g h2.g, fun r hr => (h.k r hr).heap (h2.g.block r.1 (h.k r hr).lt (fun e => by have := h.n r hr; have := h.lt; injection e with e; omega)), h.n, h.lt⟩
theorem PX.at (h : PX w b s i q L w1) (j : Nat) : PX w b s j q L (w1.setCell ⟨b, 1, none⟩ (.int .i64 (j : Nat))) := ⟨h.r.set 1 _, rgr_trans h.g (rgr_set _ _ _ _), fun r hr => (h.k r hr).setOther (fun e => by have := h.n r hr; have := h.lt; omega) _, h.n, h.lt⟩
theorem PX.new (h : PX w b s i q L w1) (T : TypeId) (us : List Value) : PX w b s i q ((w1.heap.size, T, us) :: L) (w1.alloc (.cells us.toArray T)) :=
  ⟨h.r.alloc _, rgr_trans h.g (rgr_below ((Below.refl _ _).alloc (Nat.le_refl _) _)), fun r hr => by
    rcases List.mem_cons.1 hr with rfl | hr
    · exact Row.new w1 _ us
    · exact (h.k r hr).alloc _, fun r hr => by
    rcases List.mem_cons.1 hr with rfl | hr
    · exact h.g.size
    · exact h.n r hr, h.lt⟩
end
section
variable {w w1 w2 : World} {b i j p : Nat} {s : ByteArray} {q q' : Nat × Int} {L : List Blk} {T : TypeId} {us vs : List Value} {r : Option Nat}
theorem rgr_own (h : w.grownBy w1 r) (h2 : w1.grownBy w2 (some p)) (hp : w.heap.size ≤ p) : w.grownBy w2 r := ⟨h2.os.trans h.os, h2.tape.trans h.tape, h2.output.trans h.output, Nat.le_trans h.size h2.size, fun k hk hn => (h2.block k (Nat.lt_of_lt_of_le hk h.size) (fun e => by injection e with e; omega)).trans (h.block k hk hn)⟩
theorem PX.own (h : PX w b s i q ((p, T, us) :: L) w1) (hr : Row w2 p T vs) (h2 : w1.grownBy w2 (some p)) (hn : ∀ r ∈ L, r.1 ≠ p) : PX w b s i q ((p, T, vs) :: L) w2 := by
  have hp : w.heap.size ≤ p := h.n _ (List.mem_cons_self ..)
  have hlt := h.lt
  refine ⟨h.r.heap (h2.block b h.r.lt (fun e => by injection e with e; omega)), rgr_own h.g h2 hp, fun r hr' => ?_, fun r hr' => ?_, h.lt⟩
  · rcases List.mem_cons.1 hr' with rfl | hr'
    · exact hr
    · have hk := h.k r (List.mem_cons_of_mem _ hr')
      exact hk.heap (h2.block r.1 hk.lt (fun e => by injection e with e; exact hn r hr' e))
  · rcases List.mem_cons.1 hr' with rfl | hr'
    · exact hp
    · exact h.n r (List.mem_cons_of_mem _ hr')
theorem PX.head (h : PX w b s i q ((p, T, us) :: L) w1) : Row w1 p T us := h.k _ (List.mem_cons_self ..)
theorem PX.set (h : PX w b s i q ((p, T, us) :: L) w1) (hn : ∀ r ∈ L, r.1 ≠ p) (n : Nat) (u : Value) : PX w b s i q ((p, T, us.set n u) :: L) (w1.setCell ⟨p, n, none⟩ u) :=
  h.own (h.head.set n u) (rgr_set _ _ _ _) hn
theorem PX.sub {L' : List Blk} (h : PX w b s i q L w1) (hL : ∀ r ∈ L', r ∈ L) : PX w b s i q L' w1 := ⟨h.r, h.g, fun r hr => h.k r (hL r hr), fun r hr => h.n r (hL r hr), h.lt⟩
end
theorem PX.add {w w1 w2 : World} {b i : Nat} {s : ByteArray} {q : Nat × Int} {L : List Blk} {T : TypeId} {us : List Value} (h : PX w b s i q L w1) (hb : Below w1.heap.size w1 w2) (hr : Row w2 w1.heap.size T us) : PX w b s i q ((w1.heap.size, T, us) :: L) w2 := by
  have h2 := h.call hb
  refine ⟨h2.r, h2.g, fun r hr' => ?_, fun r hr' => ?_, h.lt⟩
  · rcases List.mem_cons.1 hr' with rfl | hr'
    · exact hr
    · exact h2.k r hr'
  · rcases List.mem_cons.1 hr' with rfl | hr'
    · exact h.g.size
    · exact h2.n r hr'
end Go.Proofs.YthfonniieaiocaaGreatDoor
namespace Go.Proofs.YthfonniieaiocaaGreatDoor
open Go.RowKit

end Go.Proofs.YthfonniieaiocaaGreatDoor
