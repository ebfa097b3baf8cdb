/- Contracts of the reference's reader: fail, is, until. And what stands behind it. -/
import Derived.Test.YthfonniieaiocaaGreatDoorWp
import Derived.Test.YthfonniieaiocaaGreatDoorYa
import Derived.BigQuiet
import Derived.Test.YthfonniieaiocaaGreatDoorUq
import Derived.Test.YthfonniieaiocaaGreatDoorWt
set_option linter.unusedVariables false
set_option linter.unusedSimpArgs false
set_option maxRecDepth 100000
namespace Go.Proofs.YthfonniieaiocaaGreatDoor
open Go.RowKit

def rdC (s : ByteArray) (i : Nat) (q : Nat × Int) : List Value := [.string s, .int .i64 (i : Nat), .int .i64 (q.1 : Nat), .int .u8 q.2]
abbrev RdR (w : World) (b : Nat) (s : ByteArray) (i : Nat) (q : Nat × Int) : Prop := Row w b 93 (rdC s i q)
structure RdX (w : World) (b : Nat) (s : ByteArray) (i : Nat) (q : Nat × Int) (w' : World) : Prop where
  r : RdR w' b s i q
  g : w.grownBy w' (some b)
def failQ (q : Nat × Int) (n : Nat) (k : Int) : Nat × Int := if q.2 = 0 then (n, k) else q
theorem failQ_ok {q : Nat × Int} {n : Nat} {k : Int} (h : q.2 = 0) : failQ q n k = (n, k) := if_pos h
theorem failQ_bad {q : Nat × Int} {n : Nat} {k : Int} (h : q.2 ≠ 0) : failQ q n k = q := if_neg h
section
variable {w w1 w2 : World} {b i j : Nat} {s : ByteArray} {q q' : Nat × Int}
theorem rgr_refl (w : World) (r : Option Nat) : w.grownBy w r := ⟨rfl, rfl, rfl, Nat.le_refl _, fun _ _ _ => rfl⟩
theorem rgr_trans {r : Option Nat} (h : w.grownBy w1 r) (h2 : w1.grownBy w2 r) : w.grownBy w2 r := ⟨h2.os.trans h.os, h2.tape.trans h.tape, h2.output.trans h.output, Nat.le_trans h.size h2.size, fun k hk hn => (h2.block k (Nat.lt_of_lt_of_le hk h.size) hn).trans (h.block k hk hn)⟩
theorem rgr_below {r : Option Nat} (h : Below w.heap.size w w1) : w.grownBy w1 r := ⟨h.os, h.tape, h.output, h.size, fun k hk _ => h.block k hk⟩
theorem rgr_set (w : World) (b o : Nat) (v : Value) : w.grownBy (w.setCell ⟨b, o, none⟩ v) (some b) := ⟨rfl, rfl, rfl, by simp [World.setCell], fun k _ hn => Below.heap_setCell w ⟨b, o, none⟩ v k (fun e => hn (by rw [e]))⟩
theorem RdX.refl (h : RdR w b s i q) : RdX w b s i q w := ⟨h, rgr_refl _ _⟩
theorem RdX.then (h : RdX w b s i q w1) (h2 : RdX w1 b s j q' w2) : RdX w b s j q' w2 := ⟨h2.r, rgr_trans h.g h2.g⟩
theorem RdX.call (h : RdX w b s i q w1) (hb : Below w1.heap.size w1 w2) : RdX w b s i q w2 := ⟨h.r.below hb, rgr_trans h.g (rgr_below hb)⟩
theorem RdX.at (h : RdX w b s i q w1) (j : Nat) : RdX w b s j q (w1.setCell ⟨b, 1, none⟩ (.int .i64 (j : Nat))) := ⟨h.r.set 1 _, rgr_trans h.g (rgr_set _ _ _ _)⟩
theorem RdX.lt (h : RdX w b s i q w1) : b < w1.heap.size := h.r.lt
end
theorem rfail_any (w : World) (b i n : Nat) (s : ByteArray) (q : Nat × Int) (k : Int) (h : RdR w b s i q) :
    Calls Tryz.prog 140 #[.pointer (some ⟨b, 0, none⟩), .int .i64 (n : Nat), .int .u8 k] w fun e w' => e = .returned (.tuple #[]) ∧ RdX w b s i (failQ q n k) w' := by
  have H := kd h
  have k3 : w.cell? ⟨b, 3, none⟩ = some (.int .u8 q.2) := h.cell 3
  clear h
  obtain ⟨qn, qk⟩ := q
  dsimp only at k3
  by_cases h0 : qk = 0
  · subst h0
    rw [failQ_ok rfl]
    have k2 : w.cell? ⟨b, 2, none⟩ = some (.int .i64 (qn : Nat)) := H.out.cell 2
    have f2 := H.out.frozen 2
    have f3 := H.out.frozen 3
    have R2 := kd (show RdX w b s i (n, k) ((w.setCell ⟨b, 2, none⟩ (.int .i64 (n : Nat))).setCell ⟨b, 3, none⟩ (.int .u8 k)) from ⟨(H.out.set 2 _).set 3 _, rgr_trans (rgr_set _ _ _ _) (rgr_set _ _ _ _)⟩)
    have k3' : (w.setCell ⟨b, 2, none⟩ (.int .i64 (n : Nat))).cell? ⟨b, 3, none⟩ = some (.int .u8 0) := (H.out.set 2 (.int .i64 (n : Nat))).cell 3
    go_enter Tryz.func140, Tryz.ntmps140
    go_wp2_with fail
    first | exact ⟨rfl, R2.out⟩ | (go_ret; exact ⟨rfl, R2.out⟩) | (go_end0; exact ⟨rfl, R2.out⟩)
  · rw [failQ_bad h0]
    have q0 : (qk == 0) = false := by simpa using h0
    go_enter Tryz.func140, Tryz.ntmps140
    go_wp2_with fail
    first | exact ⟨rfl, .refl H.out⟩ | (go_ret; exact ⟨rfl, .refl H.out⟩) | (go_end0; exact ⟨rfl, .refl H.out⟩)
def isQ (X : List Int) (i : Nat) (q : Nat × Int) (c : Int) : Bool := decide (q.2 = 0) && atL X i c
theorem ris_any (w : World) (b i : Nat) (s : ByteArray) (q : Nat × Int) (c : Int) (h : RdR w b s i q) :
    Calls Tryz.prog 141 #[.pointer (some ⟨b, 0, none⟩), .int .u8 c] w fun e w' => e = .returned (.bool (isQ (byteL s) i q c)) ∧ Below w.heap.size w w' := by
  have k0 : w.cell? ⟨b, 0, none⟩ = some (.string s) := h.cell 0
  have k1 : w.cell? ⟨b, 1, none⟩ = some (.int .i64 (i : Nat)) := h.cell 1
  have k3 : w.cell? ⟨b, 3, none⟩ = some (.int .u8 q.2) := h.cell 3
  have HQ := kd (fun x : BW w => h.later x 0); have HQ1 := kd (fun x : BW w => h.later x 1); have HQ3 := kd (fun x : BW w => h.later x 3)
  have HL := byteL_len s
  obtain ⟨qn, qk⟩ := q
  unfold isQ atL
  rw [HL]
  dsimp only
  clear h
  by_cases h0 : qk = 0
  · subst h0
    by_cases hi : i < s.size
    · have d0 : decide ((i : Int) < (s.size : Int)) = true := by simp; omega
      have d1 := fun w => idx_str s (i := i) hi (z := (i : Int)) rfl w
      have e1 : decide (i < s.size) = true := by simp [hi]
      rw [e1]
      generalize (byteL s).getD i 0 = x at *
      have q0 : ∀ x : BW w, x.w.cell? ⟨b, 0, none⟩ = some (.string s) := fun x => HQ.out x
      have q1 : ∀ x : BW w, x.w.cell? ⟨b, 1, none⟩ = some (.int .i64 (i : Nat)) := fun x => HQ1.out x
      have q3 : ∀ x : BW w, x.w.cell? ⟨b, 3, none⟩ = some (.int .u8 0) := fun x => HQ3.out x
      clear k0 k1 k3
      go_enter Tryz.func141, Tryz.ntmps141
      go_wp2_with fail
      refine region_bw (by kernel_rfl) (by kernel_rfl) ?_
      iterate 31 go_big_quiet_step (fail)
      refine wpQuiet_nil ?_
      rintro _ ⟨y, rfl⟩
      go_wp2_with fail
      go_ret
      exact ⟨by simp, y.h⟩
    · have d0 : decide ((i : Int) < (s.size : Int)) = false := by simp; omega
      have e1 : decide (i < s.size) = false := by simp [hi]
      rw [e1]
      have q0 : ∀ x : BW w, x.w.cell? ⟨b, 0, none⟩ = some (.string s) := fun x => HQ.out x
      have q1 : ∀ x : BW w, x.w.cell? ⟨b, 1, none⟩ = some (.int .i64 (i : Nat)) := fun x => HQ1.out x
      have q3 : ∀ x : BW w, x.w.cell? ⟨b, 3, none⟩ = some (.int .u8 0) := fun x => HQ3.out x
      clear k0 k1 k3
      go_enter Tryz.func141, Tryz.ntmps141
      go_wp2_with fail
      refine region_bw (by kernel_rfl) (by kernel_rfl) ?_
      iterate 31 go_big_quiet_step (fail)
      refine wpQuiet_nil ?_
      rintro _ ⟨y, rfl⟩
      go_wp2_with fail
      go_ret
      exact ⟨by simp, y.h⟩
  · have e0 : (qk == 0) = false := by simpa using h0
    have e1 : decide (qk = 0) = false := by simpa using h0
    rw [e1]
    have q3 : ∀ x : BW w, x.w.cell? ⟨b, 3, none⟩ = some (.int .u8 qk) := fun x => HQ3.out x
    clear k0 k1 k3
    go_enter Tryz.func141, Tryz.ntmps141
    go_wp2_with fail
    refine region_bw (by kernel_rfl) (by kernel_rfl) ?_
    iterate 31 go_big_quiet_step (fail)
    refine wpQuiet_nil ?_
    rintro _ ⟨y, rfl⟩
    go_wp2_with fail
    go_ret
    exact ⟨by simp, y.h⟩
theorem runtil_any (w : World) (b i : Nat) (s st : ByteArray) (q : Nat × Int) (h : RdR w b s i q) (hi : i ≤ s.size) (hs : s.size ≤ 4000000) (hst : st.size ≤ 1000) :
    Calls Tryz.prog 74 #[.pointer (some ⟨b, 0, none⟩), .string st] w fun e w' => e = .returned (.int .i64 (untilL (byteL s) i (byteL st) : Nat)) ∧ w = w' := by
  have k0 : w.cell? ⟨b, 0, none⟩ = some (.string s) := h.cell 0
  have k1 : w.cell? ⟨b, 1, none⟩ = some (.int .i64 (i : Nat)) := h.cell 1
  clear h
  have HL := kd (byteL_len s)
  have UE := kd (show untilL (byteL s) i (byteL st) = skipTo (fun c => !(byteL st).contains c) (byteL s) i from rfl)
  generalize untilL (byteL s) i (byteL st) = R at *
  obtain ⟨X, hX⟩ : ∃ X, byteL s = X := ⟨_, rfl⟩
  have HX := kd hX
  rw [hX] at HL UE
  clear hX
  have CT := kd (fun c w => rcontains_any st c w (by omega))
  go_enter Tryz.func74, Tryz.ntmps74
  go_wp2_with fail
  go_loopw [5] (fun v wr => ∃ k : Nat, k ≤ s.size ∧ v = .int .i64 k ∧ w = wr ∧ Hid (R = skipTo (fun c => !(byteL st).contains c) X k)) (fun v _ => s.size - (intOf v).toNat)
  case atStart => exact ⟨i, hi, rfl, rfl, UE⟩
  case round =>
    clear UE
    obtain ⟨k, hk, rfl, rfl, RK⟩ := hrel
    by_cases hlt : k < s.size
    · have hd : decide ((k : Int) < (s.size : Int)) = true := by simp; omega
      have d1 := fun w => idx_str s (i := k) hlt (z := (k : Int)) rfl w
      rw [HX.out] at d1
      have hlt' : k < X.length := by rw [HL.out]; exact hlt
      have SY := kd (fun h => skip_yes (p := fun c => !(byteL st).contains c) (xs := X) (i := k) hlt' h)
      have SN := kd (fun h => skip_no (p := fun c => !(byteL st).contains c) (xs := X) (i := k) hlt' h)
      clear hlt'
      generalize X.getD k 0 = x at *
      have CX := kd (CT.out x w)
      cases hp : (byteL st).contains x with
      | false =>
        rw [hp] at CX
        have E := kd (RK.out.trans (SY.out (by rw [hp]; rfl)))
        clear SY SN RK hp
        go_wp2_with (go_at_call 96; refine CX.out.mono ?_; rintro e w' ⟨rfl, rfl⟩)
        go_roundw
        case rel => exact ⟨k + 1, by omega, by go_num, by first | rfl | trivial, E⟩
        case measure => simp [intOf]; omega
      | true =>
        rw [hp] at CX
        have E := kd (RK.out.trans (SN.out (by rw [hp]; rfl)))
        clear SY SN RK hp
        go_wp2_with (go_at_call 96; refine CX.out.mono ?_; rintro e w' ⟨rfl, rfl⟩)
        go_ret
        exact ⟨by rw [E.out]; rfl, rfl⟩
    · obtain rfl : k = s.size := by omega
      have hd : decide ((s.size : Int) < (s.size : Int)) = false := by simp
      have E := kd (RK.out.trans (skip_end (by rw [HL.out]; exact Nat.le_refl _)))
      clear RK
      go_wp2_with fail
      go_ret
      exact ⟨by rw [E.out]; rfl, rfl⟩

def CtP (w : World) (b : Nat) (s : ByteArray) (i te : Nat) (q : Nat × Int) (W : Option Nat) (T : List Int) (e : Ending) (w' : World) : Prop := match W with
  | none => e = .returned (.string (strOfNums T)) ∧ RdX w b s te q w'
  | some p => e = .returned (.string ⟨#[]⟩) ∧ RdX w b s i (failQ q p 5) w'
theorem CtP.bad {w w' : World} {b i te : Nat} {s : ByteArray} {q : Nat × Int} {W : Option Nat} {T : List Int} {p : Nat} (h : W = some p) (hr : RdX w b s i (failQ q p 5) w') : CtP w b s i te q W T (.returned (.string ⟨#[]⟩)) w' := by subst h; exact ⟨rfl, hr⟩
theorem CtP.good {w w' : World} {b i te : Nat} {s : ByteArray} {q : Nat × Int} {W : Option Nat} {T L : List Int} (h : W = none) (hL : L = T) (hr : RdX w b s te q w') : CtP w b s i te q W T (.returned (.string (strOfNums L))) w' := by subst h; subst hL; exact ⟨rfl, hr⟩

def toPrm (p : Pm) : Prm := ⟨p.n, p.v, p.h⟩
theorem prms_pms (l : List Pm) : prms (l.map toPrm) = pms l := by
  unfold prms pms
  rw [List.flatMap_map]; rfl
def roomF (l : List Pm) (nm : List Int) : Int := if (l.any fun p => lowS p.n == lowS nm) = true then 7 else if 16 ≤ l.length then 4 else 0
theorem findP_any (l : List Pm) (nm : List Int) : decide (0 ≤ findV (findP (l.map toPrm) nm)) = l.any fun p => lowS p.n == lowS nm := by
  rcases find_spec (l.map toPrm) nm with ⟨h1, h2⟩ | ⟨i, p, h1, h2, h3⟩
  · rw [h1]
    symm
    rw [show decide (0 ≤ findV none) = false by decide, List.any_eq_false]
    intro p hp
    have := List.find?_eq_none.1 h2 (toPrm p) (List.mem_map.2 ⟨p, hp, rfl⟩)
    exact this
  · rw [h1]
    symm
    rw [show decide (0 ≤ findV (some i)) = true by unfold findV; simp, List.any_eq_true]
    have hm := List.mem_of_find?_eq_some h3
    obtain ⟨q, hq, rfl⟩ := List.mem_map.1 hm
    have h4 := List.find?_some (p := fun p : Prm => lowS p.n == lowS nm) h3
    exact ⟨q, hq, h4⟩
theorem rroom_any (A : Option Addr) (n c : Nat) (l : List Pm) (nm : List Int) (w : World) (hA : Rds w w.heap.size A (pms l)) (hn : l.length = n) (hl : ∀ p ∈ l, pmSz p) (hN : n ≤ 16000000) (hb : By nm) (hs : nm.length ≤ 4000000) :
    Calls Tryz.prog 115 #[.slice A n c, .string (strOfNums nm)] w fun e w' => e = .returned (.int .u8 (roomF l nm)) ∧ Below w.heap.size w w' := by
  have FA := find_any A n c (l.map toPrm) (strOfNums nm) w (by rw [prms_pms]; exact hA) (by rw [List.length_map]; exact hn) (fun p hp => by
    obtain ⟨q, hq, rfl⟩ := List.mem_map.1 hp
    exact hl q hq) hN (by rw [num_size]; exact hs)
  rw [byteL_str hb] at FA
  have FN := kd FA
  have FE := findP_any l nm
  have E := kd (show roomF l nm = if (l.any fun p => lowS p.n == lowS nm) = true then 7 else if 16 ≤ n then 4 else 0 by subst hn; rfl)
  generalize findV (findP (l.map toPrm) nm) = fv at *
  generalize (l.any fun p => lowS p.n == lowS nm) = a at *
  generalize roomF l nm = R at *
  clear FA hA hn hl
  go_enter Tryz.func115, Tryz.ntmps115
  go_wp2_with fail
  refine FN.out.mono ?_
  rintro _ w1 ⟨rfl, hb1⟩
  have B1 := kd hb1
  clear hb1 FN
  cases a with
  | true =>
    have E2 := kd (show R = 7 from E.out)
    clear E
    go_wp2_with fail
    go_ret
    exact ⟨by rw [E2.out]; rfl, B1.out⟩
  | false =>
    by_cases h16 : 16 ≤ n
    · have E2 := kd (show R = 4 by rw [E.out, if_neg (by decide), if_pos h16])
      have d1 : decide ((16 : Int) ≤ (n : Int)) = true := by simp; omega
      clear E
      go_wp2_with fail
      go_ret
      exact ⟨by rw [E2.out]; rfl, B1.out⟩
    · have E2 := kd (show R = 0 by rw [E.out, if_neg (by decide), if_neg h16])
      have d1 : decide ((16 : Int) ≤ (n : Int)) = false := by simp; omega
      clear E
      go_wp2_with fail
      go_ret
      exact ⟨by rw [E2.out]; rfl, B1.out⟩
theorem VX.cap {w w' : World} {v : Value} {n : Nat} {cs : List Value} (X : VX 56 3 w v n cs w') : ∃ A c, v = .slice A n c ∧ n ≤ c ∧ c ≤ maxLen ∧ (A = none → c = 0) ∧ Rds w' w'.heap.size A cs := by
  have hl := X.o.1
  rcases X.o.2 with ⟨rfl, rfl⟩ | ⟨g, cap, cur, rfl, hb, hg, hc, hm, hs, ht⟩
  · exact ⟨none, 0, rfl, Nat.le_refl _, Nat.zero_le _, fun _ => rfl, fun h => by rw [List.eq_nil_of_length_eq_zero (l := cs) (by simpa using hl)] at h; simp at h⟩
  · refine ⟨some ⟨g, 0, none⟩, cap, rfl, hc, hm, (fun h => by cases h), fun _ => ?_⟩
    rcases X.form with ⟨h1, _⟩ | ⟨g', cap', h1, _, _, h4, h5⟩
    · cases h1
    · cases h1
      exact ⟨g, 0, rfl, h4, fun j u hu => by rw [Nat.zero_add]; exact h5 j u hu⟩
theorem wpList_appNone {w : World} {ops : Array Oper} {rest : List Oper} {o : Oper} {a : Act} {Q : Exit → Act → World → Prop} (hgd : o.guard = none) (s x : Operand)
    (ho : o.op = .call { callee := .builtin .append, args := #[s, x], argTypes := #[30, 30] }) {w0 : World} {v : Value} {n : Nat} {cs : List Value} (X : VX 56 3 w0 v n cs w) (hs : a.eval s = v) (A : Option Addr) (c : Nat) (hx : a.eval x = .slice A 0 c)
    (h : wpList Tryz.prog ops Q rest (a.put o.dst v) w) : wpList Tryz.prog ops Q (o :: rest) a w := by
  obtain ⟨i, hi, hz, hsz, hbt⟩ := infoPm
  refine wpList_value hgd _ w ?_ h
  unfold execOp
  rcases X.o.2 with ⟨rfl, rfl⟩ | ⟨g, cap, cur, rfl, hb, hg, hc, hm, hs', ht⟩
  · cases A with
    | none => simp [ho, resolve, invoke, builtin, hs, hx, Builtin.append_, run_underlying Tryz.underlying30, sizeOf, typeInfo, hi, Builtin.lenOf, Builtin.firstCells, loadCells, loadCellsFrom, Sem.run_bind, Result.andThen_ok]
    | some b => simp [ho, resolve, invoke, builtin, hs, hx, Builtin.append_, run_underlying Tryz.underlying30, sizeOf, typeInfo, hi, Builtin.lenOf, Builtin.firstCells, loadCells, loadCellsFrom, Sem.run_bind, Result.andThen_ok]
  · cases A with
    | none => simp [ho, resolve, invoke, builtin, hs, hx, Builtin.append_, run_underlying Tryz.underlying30, sizeOf, typeInfo, hi, Builtin.lenOf, Builtin.firstCells, loadCells, loadCellsFrom, Sem.run_bind, Result.andThen_ok, hc]; rfl
    | some b => simp [ho, resolve, invoke, builtin, hs, hx, Builtin.append_, run_underlying Tryz.underlying30, sizeOf, typeInfo, hi, Builtin.lenOf, Builtin.firstCells, loadCells, loadCellsFrom, Sem.run_bind, Result.andThen_ok, hc]; rfl
theorem wpList_appPm {w wr : World} {ops : Array Oper} {rest : List Oper} {o : Oper} {a : Act} {Q : Exit → Act → World → Prop} (hgd : o.guard = none) (s x : Operand)
    (ho : o.op = .call { callee := .builtin .append, args := #[s, x], argTypes := #[30, 30] }) {v : Value} {l : List Pm} (hs : a.eval s = v) (H : VX 56 3 w v l.length (pms l) wr)
    (k : List Pm) (A : Option Addr) (m c : Nat) (hm : k.length = m) (hx : a.eval x = .slice A m c) (hR : Rds wr wr.heap.size A (pms k)) (hb : l.length + k.length ≤ 16000000)
    (h : ∀ v' w', Hid (VX 56 3 w v' (l ++ k).length (pms (l ++ k)) w') → wpList Tryz.prog ops Q rest (a.put o.dst v') w') : wpList Tryz.prog ops Q (o :: rest) a wr := by
  obtain ⟨i, hi, hz, hsz, hbt⟩ := infoPm
  subst hm
  by_cases h0 : k = []
  · subst h0
    exact wpList_appNone hgd s x ho H hs A c hx (h _ _ (kd (by rw [List.append_nil]; exact H)))
  · have hpos : 0 < (pms k).length := by
      rw [pms_len]
      cases k with
      | nil => exact absurd rfl h0
      | cons p r => rw [List.length_cons]; omega
    obtain ⟨b, o', rfl, _, hc⟩ := hR hpos
    refine wpList_append_own _ hgd s x 30 ho w.heap.size 56 i _ 3 40 Tryz.underlying30 hi hz hsz hbt rfl (by omega) v l.length (pms l) hs H.o ⟨b, o', none⟩ k.length c (pms k) hx (pms_len k) (fun j u hu => ?_) (pms_one k) (by unfold maxLen; omega) (by omega) H.bw.size ?_
    · rw [Addr.add_mid]; exact hc j u hu
    · intro v' w' h2 h3 _
      refine h v' w' (kd ⟨?_, H.bw.grown h3 H.bw.size (own_block H.o)⟩)
      rw [List.length_append, show pms (l ++ k) = pms l ++ pms k by unfold pms; rw [List.flatMap_append]]
      exact h2

theorem rds_drop {w : World} {B b o : Nat} {l : List Pm} (h : Rds w B (some ⟨b, o, none⟩) (pms l)) (k : Nat) : Rds w B (some ⟨b, o + k * 3, none⟩) (pms (l.drop k)) := fun hn => by
  have hl : (pms l).length = (pms (l.take k)).length + (pms (l.drop k)).length := by rw [← List.length_append, ← pms_take]
  obtain ⟨b', o', e, hb, hc⟩ := h (by omega)
  cases e
  refine ⟨b, o + k * 3, rfl, hb, fun j u hu => ?_⟩
  have hk : k ≤ l.length := by
    rw [pms_len, List.length_drop] at hn; omega
  have := hc (k * 3 + j) u (by
    rw [pms_take l k, List.getElem?_append_right (by rw [pms_len, List.length_take]; omega), pms_len, List.length_take, Nat.min_eq_left hk, show k * 3 + j - k * 3 = j by omega]
    exact hu)
  rwa [← Nat.add_assoc] at this
theorem gtr_num {x y : List Int} (hx : By x) (hy : By y) : (!Op.bytesLess (strOfNums y).toList (strOfNums x).toList && !((strOfNums y).toList == (strOfNums x).toList)) = ltL x y := by
  rw [less_num hy hx, tl_beq, byteL_str hy, byteL_str hx]
  cases h1 : ltL y x with
  | true => rw [ltL_asym h1]; rfl
  | false =>
    cases h2 : ltL x y with
    | false =>
      have := ltL_tri h1 h2
      subst this
      simp
    | true =>
      have hne : y ≠ x := fun h => by
        subst h
        rw [ltL_irr] at h2
        cases h2
      simp [hne]
theorem VX.capf {w w' : World} {v : Value} {n : Nat} {cs : List Value} (X : VX 56 3 w v n cs w') : ∃ A c, v = .slice A n c ∧ n ≤ c ∧ c ≤ maxLen ∧ ((A = none ∧ c = 0) ∨ ∃ g, A = some ⟨g, 0, none⟩) ∧ Rds w' w'.heap.size A cs := by
  obtain ⟨A, c, h1, h2, h3, h4, h5⟩ := X.cap
  refine ⟨A, c, h1, h2, h3, ?_, h5⟩
  rcases X.o.2 with ⟨rfl, _⟩ | ⟨g, cap, cur, rfl, _⟩
  · cases h1; exact .inl ⟨rfl, rfl⟩
  · cases h1; exact .inr ⟨g, rfl⟩
set_option maxHeartbeats 8000000 in
theorem rsorted_any (A : Option Addr) (n c : Nat) (l : List Pm) (w : World) (hA : Rds w w.heap.size A (pms l)) (hn : l.length = n) (hN : n ≤ 1000000) (hl : ∀ p ∈ l, By p.n) :
    Calls Tryz.prog 47 #[.slice A n c] w fun e w' => ∃ v, e = .returned v ∧ VX 56 3 w v n (pms (sortPm l)) w' := by
  have HN := kd hn; have HL := kd hl
  have RA := kd (fun wr (hb : Below w.heap.size w wr) => show Rds wr wr.heap.size A (pms l) from (hA.below hb).up hb.size)
  clear hA hn hl
  go_enter Tryz.func47, Tryz.ntmps47
  go_wp2_with fail
  go_loopw [3, 4] (fun v3 v4 wr => ∃ (i : Nat) (v : Value), i ≤ n ∧ v3 = v ∧ v4 = .int .i64 i ∧ Hid (VX 56 3 w v i (pms (sortPm (l.take i))) wr)) (fun _ v _ => n - (intOf v).toNat)
  case atStart => exact ⟨0, _, Nat.zero_le _, rfl, rfl, kd (VX.nil _ _ _)⟩
  case round =>
    obtain ⟨i, v, hi, rfl, rfl, HV⟩ := hrel
    by_cases hlt : i < n
    · have hd : decide (i < n) = true := by simp [hlt]
      have hd2 : decide ((i : Int) < (n : Int)) = true := by simp; omega
      obtain ⟨p, hp⟩ : ∃ p, l[i]? = some p := ⟨_, List.getElem?_eq_getElem (by rw [HN.out]; exact hlt)⟩
      obtain ⟨x1, o1, rfl, hx1, hc1⟩ := RA.out wr HV.out.bw (by rw [pms_len, HN.out]; omega)
      have G1 := kd (show wr.rangeAt x1 (o1 + i * 3) (pmC p) from fun j v hv => Rds.range2 hc1 (i * 3) _ (pms_at hp) j v hv)
      have PB := kd (HL.out p (List.mem_of_getElem? hp))
      have SB := kd (show ∀ q ∈ sortPm (l.take i), By q.n from fun q hq => HL.out q (List.mem_of_mem_take ((sort_perm _).mem_iff.1 hq)))
      have SN := kd (show sortPm (l.take (i + 1)) = insPm p (sortPm (l.take i)) by rw [List.take_add_one, hp]; exact sort_snoc _ _)
      have SA := kd (sort_asc (l.take i))
      have SL := kd (show (sortPm (l.take i)).length = i by rw [sort_len, List.length_take, HN.out]; omega)
      clear hc1 hp
      generalize sortPm (l.take i) = S at *
      obtain ⟨AO, cO, rfl, hcO, hcM, hcF, hRO⟩ := HV.out.capf
      have RO := kd (fun wi (hb : Below wr.heap.size wr wi) => show Rds wi wi.heap.size AO (pms S) from (hRO.below hb).up hb.size)
      have G2 := kd (fun wi (hb : Below wr.heap.size wr wi) => show wi.rangeAt x1 (o1 + i * 3) (pmC p) from fun j v hv => (hb.cell (p := ⟨x1, _, none⟩) hx1).trans (G1.out j v hv))
      have BWr := kd HV.out.bw
      clear hRO G1 HV
      go_wp2_with fail
      go_loopw [5] (fun v wi => ∃ k : Nat, k ≤ i ∧ v = .int .i64 k ∧ Hid (∀ q ∈ S.drop k, ltL p.n q.n = true) ∧ Hid (Below wr.heap.size wr wi)) (fun v _ => (intOf v).toNat)
      case atStart => exact ⟨i, Nat.le_refl _, rfl, kd (fun q hq => by rw [List.drop_of_length_le (by rw [SL.out]; exact Nat.le_refl _)] at hq; cases hq), kd (Below.refl _ _)⟩
      case round =>
        obtain ⟨k, hk, rfl, DR, HB⟩ := hrel
        by_cases hk0 : k = 0
        · have STOP := kd (show k = 0 ∨ ∃ q, S[k - 1]? = some q ∧ ltL p.n q.n = false from .inl hk0)
          have g0 : decide (0 < k) = false := by simp; omega
          clear hk0
          go_wp2_with fail
          refine region_bw (by kernel_rfl) (by kernel_rfl) ?_
          iterate 16 go_big_quiet_step (fail)
          refine wpQuiet_nil ?_
          rintro _ ⟨y, rfl⟩
          have EI := kd (show sortPm (l.take (i + 1)) = ((([] ++ S.take k) ++ [p]) ++ S.drop k) by
            rw [SN.out, ins_at SA.out (by rw [SL.out]; exact hk) (asc_take SA.out (by rw [SL.out]; exact hk) STOP.out) DR.out]
            simp)
          have B5 := kd (bthen HB.out y.h)
          generalize y.w = w5 at *
          have V0 := kd (show VX 56 3 w5 (.slice none 0 0) ([] : List Pm).length (pms []) w5 from VX.nil _ _ _)
          have LK : (S.take k).length = k := by rw [List.length_take, SL.out]; omega
          have LD : (S.drop k).length = i - k := by rw [List.length_drop, SL.out]
          have kc : (k : Int) ≤ (cO : Int) := by omega
          have ki : (k : Int) ≤ (i : Int) := by omega
          have RT := kd (rds_take (RO.out _ B5.out) k)
          clear STOP DR SN HB
          obtain ⟨pn, pv, ph⟩ := p
          have G3 := kd (fun w6 (hb : Below w5.heap.size w5 w6) => show w6.rangeAt x1 (o1 + i * 3) [.string (strOfNums pn), .string (strOfNums pv), .bool ph] from G2.out _ (bthen B5.out hb))
          rcases hcF with ⟨rfl, h1⟩ | ⟨x2, rfl⟩
          · obtain rfl : cO = 0 := h1
            obtain rfl : i = 0 := by omega
            obtain rfl : k = 0 := by omega
            obtain rfl : S = [] := List.eq_nil_of_length_eq_zero SL.out
            replace EI := kd (show sortPm (l.take (0 + 1)) = ([] ++ [(⟨pn, pv, ph⟩ : Pm)]) ++ [] from EI.out)
            replace G3 := kd (G3.out w5 (Below.refl _ _))
            have RN := kd (fun w7 => show Rds w7 w7.heap.size none (pms []) from fun h => by simp [pms] at h)
            clear RT LK LD kc ki RO SA SB
            have B1 : ([] : List Pm).length + 1 ≤ 16777216 := by show 0 + 1 ≤ _; omega
            have B2 : (([] : List Pm) ++ [(⟨pn, pv, ph⟩ : Pm)]).length + ([] : List Pm).length ≤ 16000000 := by show 1 + 0 ≤ _; omega
            replace B1 := kd B1
            replace B2 := kd B2
            go_upto_region 10 with fail
            generalize hv0 : Value.slice none 0 0 = v0 at V0 ⊢
            replace hv0 := kd hv0
            go_upto_region 11 with (first
              | (with_reducible refine wpList_load_mid rfl 56 (.tmp 41) rfl x1 (o1 + 0 * 3) rfl [.string (strOfNums pn), .string (strOfNums pv), .bool ph] _ G3.out Tryz.underlying56 rfl (sizePm _ _ _) ?_)
              | (with_reducible refine wpList_pushF rfl (.tmp 38) (.tmp 43) rfl rfl V0.out ⟨pn, pv, ph⟩ rfl B1.out ?_; intro v7 w7 V7))
            replace hv0 := hv0.out
            subst hv0
            go_wp2_with (with_reducible refine wpList_appPm rfl (.tmp 45) (.tmp 48) rfl rfl V7.out [] none 0 0 rfl rfl (RN.out w7) B2.out ?_; intro v8 w8 V8)
            have V9 := kd (V8.out.base (bthen BWr.out B5.out))
            rw [← EI.out] at V9
            go_roundw
            case rel => exact ⟨0 + 1, v8, by omega, rfl, by go_num, kd (by have h := V9.out; rw [sort_len, List.length_take, HN.out, Nat.min_eq_left (by omega)] at h; exact h)⟩
            case measure => simp [intOf]; omega
          · have RD := kd (fun w6 (hb : Below w5.heap.size w5 w6) => show Rds w6 w6.heap.size (some ⟨x2, k * 3, none⟩) (pms (S.drop k)) by have h := rds_drop (RO.out w6 (bthen B5.out hb)) k; rw [Nat.zero_add] at h; exact h)
            have B1 := kd (show ([] : List Pm).length + (S.take k).length ≤ 16000000 by rw [LK]; show 0 + k ≤ _; omega)
            have B2 := kd (show (([] : List Pm) ++ S.take k).length + 1 ≤ 16777216 by rw [List.length_append, LK]; show 0 + k + 1 ≤ _; omega)
            have B3 := kd (show ((([] : List Pm) ++ S.take k) ++ [(⟨pn, pv, ph⟩ : Pm)]).length + (S.drop k).length ≤ 16000000 by rw [List.length_append, List.length_append, LK, LD]; show 0 + k + 1 + (i - k) ≤ _; omega)
            go_upto_region 10 with (with_reducible refine wpList_appPm rfl (.tmp 33) (.tmp 36) rfl rfl V0.out (S.take k) (some ⟨x2, 0, none⟩) k cO LK rfl RT.out B1.out ?_; intro v6 w6 V6)
            have G4 := kd (G3.out w6 V6.out.bw)
            go_upto_region 11 with (first
              | (with_reducible refine wpList_load_mid rfl 56 (.tmp 41) rfl x1 (o1 + i * 3) rfl [.string (strOfNums pn), .string (strOfNums pv), .bool ph] _ G4.out Tryz.underlying56 rfl (sizePm _ _ _) ?_)
              | (with_reducible refine wpList_pushF rfl (.tmp 38) (.tmp 43) rfl rfl V6.out ⟨pn, pv, ph⟩ rfl B2.out ?_; intro v7 w7 V7))
            have RD2 := kd (RD.out w7 V7.out.bw)
            have kcn : k ≤ cO := by omega
            clear kc
            rcases Nat.eq_or_lt_of_le kcn with e0 | kc
            · have RD3 := kd (show Rds w7 w7.heap.size (some ⟨x2, 0, none⟩) (pms (S.drop k)) from fun h => by
                rw [pms_len, List.length_drop, SL.out] at h; omega)
              have LD0 : (S.drop k).length = 0 := by rw [LD]; omega
              subst e0
              clear RD2
              go_wp2_with (with_reducible refine wpList_appPm rfl (.tmp 45) (.tmp 48) rfl rfl V7.out (S.drop k) (some ⟨x2, 0, none⟩) 0 0 LD0 rfl RD3.out B3.out ?_; intro v8 w8 V8)
              have V9 := kd (V8.out.base (bthen BWr.out B5.out))
              rw [← EI.out] at V9
              go_roundw
              case rel => exact ⟨i + 1, v8, by omega, rfl, by go_num, kd (by have h := V9.out; rw [sort_len, List.length_take, HN.out, Nat.min_eq_left (by omega)] at h; exact h)⟩
              case measure => simp [intOf]; omega
            · have kne : k ≠ cO := by omega
              go_wp2_with (with_reducible refine wpList_appPm rfl (.tmp 45) (.tmp 48) rfl rfl V7.out (S.drop k) (some ⟨x2, k * 3, none⟩) (i - k) (cO - k) LD rfl RD2.out B3.out ?_; intro v8 w8 V8)
              have V9 := kd (V8.out.base (bthen BWr.out B5.out))
              rw [← EI.out] at V9
              go_roundw
              case rel => exact ⟨i + 1, v8, by omega, rfl, by go_num, kd (by have h := V9.out; rw [sort_len, List.length_take, HN.out, Nat.min_eq_left (by omega)] at h; exact h)⟩
              case measure => simp [intOf]; omega
        · obtain ⟨k', hk'⟩ : ∃ k', k = k' + 1 := ⟨k - 1, by omega⟩
          have g0 : decide ((0 : Int) < (k : Int)) = true := by simp; omega
          have g1 : (k : Int) - 1 = (k' : Int) := by omega
          have g2 : k' < i := by omega
          obtain ⟨q, hq⟩ : ∃ q, S[k']? = some q := ⟨_, List.getElem?_eq_getElem (by rw [SL.out]; exact g2)⟩
          have STOP := kd (fun (h : ltL p.n q.n = false) => show k = 0 ∨ ∃ q, S[k - 1]? = some q ∧ ltL p.n q.n = false from .inr ⟨q, by rw [hk', Nat.add_sub_cancel]; exact hq, h⟩)
          have DR2 := kd (fun (h : ltL p.n q.n = true) => show ∀ q ∈ S.drop k', ltL p.n q.n = true from fun q' hq' => by
            rw [dropPm hq] at hq'
            rcases List.mem_cons.1 hq' with rfl | hq'
            · exact h
            · exact DR.out q' (by rw [hk']; exact hq'))
          obtain ⟨x2, rfl⟩ : ∃ g, AO = some ⟨g, 0, none⟩ := by
            rcases hcF with ⟨_, h1⟩ | h
            · omega
            · exact h
          clear hcF
          obtain ⟨x2', o2, hAO, hx2, hc2⟩ := RO.out _ HB.out (by rw [pms_len, SL.out]; omega)
          obtain ⟨e1, rfl⟩ : x2' = x2 ∧ o2 = 0 := by cases hAO; exact ⟨rfl, rfl⟩
          rw [e1] at hx2 hc2
          clear hAO e1
          have LT := gtr_num PB.out (SB.out q (List.mem_of_getElem? hq))
          have F1 := kd (Rds.range2 hc2 (k' * 3) _ (pms_at hq))
          have F2 := kd (G2.out _ HB.out)
          have qA : ∀ x : BW wr, x.w.cell? ⟨x2, k' * 3, none⟩ = some (.string (strOfNums q.n)) := fun x => (x.h.cell (p := ⟨x2, _, none⟩) hx2).trans (by have h := F1.out 0 _ rfl; rw [Nat.zero_add] at h; exact h)
          have qB : ∀ x : BW wr, x.w.cell? ⟨x1, o1 + i * 3, none⟩ = some (.string (strOfNums p.n)) := fun x => (x.h.cell (p := ⟨x1, _, none⟩) (Nat.lt_of_lt_of_le hx1 HB.out.size)).trans (F2.out 0 _ rfl)
          clear hc2 hq F1 F2 hk0
          cases hlt2 : ltL p.n q.n with
          | true =>
            rw [hlt2] at LT
            have D2 := kd (DR2.out hlt2)
            clear STOP DR2 hlt2
            generalize strOfNums q.n = tq at *
            generalize strOfNums p.n = tp at *
            go_wp2_with fail
            refine region_bw (by kernel_rfl) (by kernel_rfl) ?_
            iterate 16 go_big_quiet_step (fail)
            refine wpQuiet_nil ?_
            rintro _ ⟨y, rfl⟩
            have B6 := kd (bthen HB.out y.h)
            go_wp2_with fail
            go_roundw
            case rel => exact ⟨k', by omega, by go_num, D2, B6⟩
            case measure => simp [intOf]; omega
          | false =>
            rw [hlt2] at LT
            replace STOP := kd (STOP.out hlt2)
            clear DR2 hlt2
            generalize strOfNums q.n = tq at *
            generalize htp : strOfNums p.n = tp at *
            go_wp2_with fail
            refine region_bw (by kernel_rfl) (by kernel_rfl) ?_
            iterate 16 go_big_quiet_step (fail)
            refine wpQuiet_nil ?_
            rintro _ ⟨y, rfl⟩
            clear qA qB LT htp hk' g1 g2 g0
            have EI := kd (show sortPm (l.take (i + 1)) = ((([] ++ S.take k) ++ [p]) ++ S.drop k) by
              rw [SN.out, ins_at SA.out (by rw [SL.out]; exact hk) (asc_take SA.out (by rw [SL.out]; exact hk) STOP.out) DR.out]
              simp)
            have B5 := kd (bthen HB.out y.h)
            generalize y.w = w5 at *
            have V0 := kd (show VX 56 3 w5 (.slice none 0 0) ([] : List Pm).length (pms []) w5 from VX.nil _ _ _)
            have LK : (S.take k).length = k := by rw [List.length_take, SL.out]; omega
            have LD : (S.drop k).length = i - k := by rw [List.length_drop, SL.out]
            have kc : (k : Int) ≤ (cO : Int) := by omega
            have ki : (k : Int) ≤ (i : Int) := by omega
            have RT := kd (rds_take (RO.out _ B5.out) k)
            clear STOP DR SN HB
            obtain ⟨pn, pv, ph⟩ := p
            have G3 := kd (fun w6 (hb : Below w5.heap.size w5 w6) => show w6.rangeAt x1 (o1 + i * 3) [.string (strOfNums pn), .string (strOfNums pv), .bool ph] from G2.out _ (bthen B5.out hb))
            have RD := kd (fun w6 (hb : Below w5.heap.size w5 w6) => show Rds w6 w6.heap.size (some ⟨x2, k * 3, none⟩) (pms (S.drop k)) by have h := rds_drop (RO.out w6 (bthen B5.out hb)) k; rw [Nat.zero_add] at h; exact h)
            have B1 := kd (show ([] : List Pm).length + (S.take k).length ≤ 16000000 by rw [LK]; show 0 + k ≤ _; omega)
            have B2 := kd (show (([] : List Pm) ++ S.take k).length + 1 ≤ 16777216 by rw [List.length_append, LK]; show 0 + k + 1 ≤ _; omega)
            have B3 := kd (show ((([] : List Pm) ++ S.take k) ++ [(⟨pn, pv, ph⟩ : Pm)]).length + (S.drop k).length ≤ 16000000 by rw [List.length_append, List.length_append, LK, LD]; show 0 + k + 1 + (i - k) ≤ _; omega)
            go_upto_region 10 with (with_reducible refine wpList_appPm rfl (.tmp 33) (.tmp 36) rfl rfl V0.out (S.take k) (some ⟨x2, 0, none⟩) k cO LK rfl RT.out B1.out ?_; intro v6 w6 V6)
            have G4 := kd (G3.out w6 V6.out.bw)
            go_upto_region 11 with (first
              | (with_reducible refine wpList_load_mid rfl 56 (.tmp 41) rfl x1 (o1 + i * 3) rfl [.string (strOfNums pn), .string (strOfNums pv), .bool ph] _ G4.out Tryz.underlying56 rfl (sizePm _ _ _) ?_)
              | (with_reducible refine wpList_pushF rfl (.tmp 38) (.tmp 43) rfl rfl V6.out ⟨pn, pv, ph⟩ rfl B2.out ?_; intro v7 w7 V7))
            have RD2 := kd (RD.out w7 V7.out.bw)
            have kcn : k ≤ cO := by omega
            clear kc
            rcases Nat.eq_or_lt_of_le kcn with e0 | kc
            · have RD3 := kd (show Rds w7 w7.heap.size (some ⟨x2, 0, none⟩) (pms (S.drop k)) from fun h => by
                rw [pms_len, List.length_drop, SL.out] at h; omega)
              have LD0 : (S.drop k).length = 0 := by rw [LD]; omega
              subst e0
              clear RD2
              go_wp2_with (with_reducible refine wpList_appPm rfl (.tmp 45) (.tmp 48) rfl rfl V7.out (S.drop k) (some ⟨x2, 0, none⟩) 0 0 LD0 rfl RD3.out B3.out ?_; intro v8 w8 V8)
              have V9 := kd (V8.out.base (bthen BWr.out B5.out))
              rw [← EI.out] at V9
              go_roundw
              case rel => exact ⟨i + 1, v8, by omega, rfl, by go_num, kd (by have h := V9.out; rw [sort_len, List.length_take, HN.out, Nat.min_eq_left (by omega)] at h; exact h)⟩
              case measure => simp [intOf]; omega
            · have kne : k ≠ cO := by omega
              go_wp2_with (with_reducible refine wpList_appPm rfl (.tmp 45) (.tmp 48) rfl rfl V7.out (S.drop k) (some ⟨x2, k * 3, none⟩) (i - k) (cO - k) LD rfl RD2.out B3.out ?_; intro v8 w8 V8)
              have V9 := kd (V8.out.base (bthen BWr.out B5.out))
              rw [← EI.out] at V9
              go_roundw
              case rel => exact ⟨i + 1, v8, by omega, rfl, by go_num, kd (by have h := V9.out; rw [sort_len, List.length_take, HN.out, Nat.min_eq_left (by omega)] at h; exact h)⟩
              case measure => simp [intOf]; omega
    · obtain rfl : i = n := by omega
      have hd2 : decide ((i : Int) < (i : Int)) = false := by simp
      have TK : l.take i = l := List.take_of_length_le (by rw [HN.out]; exact Nat.le_refl _)
      rw [TK] at HV
      clear TK
      go_wp2_with fail
      go_ret
      exact ⟨_, rfl, HV.out⟩

structure PX (w : World) (b : Nat) (s : ByteArray) (i : Nat) (q : Nat × Int) (L : List Blk) (w' : World) : Prop where
  r : RdR w' b s i q
  g : w.grownBy w' (some b)
  k : ∀ r ∈ L, Row w' r.1 r.2.1 r.2.2
  n : ∀ r ∈ L, w.heap.size ≤ r.1
  lt : b < w.heap.size
section
variable {w w1 w2 : World} {b i j : Nat} {s : ByteArray} {q q' : Nat × Int} {L : List Blk}
theorem PX.start (h : RdR w b s i q) : PX w b s i q [] w := ⟨h, rgr_refl _ _, (fun r hr => by cases hr), (fun r hr => by cases hr), h.lt⟩
theorem PX.end (h : PX w b s i q L w1) : RdX w b s i q w1 := ⟨h.r, h.g⟩
theorem PX.call (h : PX w b s i q L w1) (hb : Below w1.heap.size w1 w2) : PX w b s i q L w2 := ⟨h.r.below hb, rgr_trans h.g (rgr_below hb), fun r hr => (h.k r hr).below hb, h.n, h.lt⟩
theorem PX.then (h : PX w b s i q L w1) (h2 : RdX w1 b s j q' w2) : PX w b s j q' L w2 := ⟨h2.r, rgr_trans h.g h2.g, fun r hr => (h.k r hr).heap (h2.g.block r.1 (h.k r hr).lt (fun e => by have := h.n r hr; have := h.lt; injection e with e; omega)), h.n, h.lt⟩
theorem PX.at (h : PX w b s i q L w1) (j : Nat) : PX w b s j q L (w1.setCell ⟨b, 1, none⟩ (.int .i64 (j : Nat))) := ⟨h.r.set 1 _, rgr_trans h.g (rgr_set _ _ _ _), fun r hr => (h.k r hr).setOther (fun e => by have := h.n r hr; have := h.lt; omega) _, h.n, h.lt⟩
theorem PX.new (h : PX w b s i q L w1) (T : TypeId) (us : List Value) : PX w b s i q ((w1.heap.size, T, us) :: L) (w1.alloc (.cells us.toArray T)) :=
  ⟨h.r.alloc _, rgr_trans h.g (rgr_below ((Below.refl _ _).alloc (Nat.le_refl _) _)), fun r hr => by
    rcases List.mem_cons.1 hr with rfl | hr
    · exact Row.new w1 _ us
    · exact (h.k r hr).alloc _, fun r hr => by
    rcases List.mem_cons.1 hr with rfl | hr
    · exact h.g.size
    · exact h.n r hr, h.lt⟩
end
section
variable {w w1 w2 : World} {b i j p : Nat} {s : ByteArray} {q q' : Nat × Int} {L : List Blk} {T : TypeId} {us vs : List Value} {r : Option Nat}
theorem rgr_own (h : w.grownBy w1 r) (h2 : w1.grownBy w2 (some p)) (hp : w.heap.size ≤ p) : w.grownBy w2 r := ⟨h2.os.trans h.os, h2.tape.trans h.tape, h2.output.trans h.output, Nat.le_trans h.size h2.size, fun k hk hn => (h2.block k (Nat.lt_of_lt_of_le hk h.size) (fun e => by injection e with e; omega)).trans (h.block k hk hn)⟩
theorem PX.own (h : PX w b s i q ((p, T, us) :: L) w1) (hr : Row w2 p T vs) (h2 : w1.grownBy w2 (some p)) (hn : ∀ r ∈ L, r.1 ≠ p) : PX w b s i q ((p, T, vs) :: L) w2 := by
  have hp : w.heap.size ≤ p := h.n _ (List.mem_cons_self ..)
  have hlt := h.lt
  refine ⟨h.r.heap (h2.block b h.r.lt (fun e => by injection e with e; omega)), rgr_own h.g h2 hp, fun r hr' => ?_, fun r hr' => ?_, h.lt⟩
  · rcases List.mem_cons.1 hr' with rfl | hr'
    · exact hr
    · have hk := h.k r (List.mem_cons_of_mem _ hr')
      exact hk.heap (h2.block r.1 hk.lt (fun e => by injection e with e; exact hn r hr' e))
  · rcases List.mem_cons.1 hr' with rfl | hr'
    · exact hp
    · exact h.n r (List.mem_cons_of_mem _ hr')
theorem PX.head (h : PX w b s i q ((p, T, us) :: L) w1) : Row w1 p T us := h.k _ (List.mem_cons_self ..)
theorem PX.set (h : PX w b s i q ((p, T, us) :: L) w1) (hn : ∀ r ∈ L, r.1 ≠ p) (n : Nat) (u : Value) : PX w b s i q ((p, T, us.set n u) :: L) (w1.setCell ⟨p, n, none⟩ u) :=
  h.own (h.head.set n u) (rgr_set _ _ _ _) hn
theorem PX.sub {L' : List Blk} (h : PX w b s i q L w1) (hL : ∀ r ∈ L', r ∈ L) : PX w b s i q L' w1 := ⟨h.r, h.g, fun r hr => h.k r (hL r hr), fun r hr => h.n r (hL r hr), h.lt⟩
end
theorem PX.add {w w1 w2 : World} {b i : Nat} {s : ByteArray} {q : Nat × Int} {L : List Blk} {T : TypeId} {us : List Value} (h : PX w b s i q L w1) (hb : Below w1.heap.size w1 w2) (hr : Row w2 w1.heap.size T us) : PX w b s i q ((w1.heap.size, T, us) :: L) w2 := by
  have h2 := h.call hb
  refine ⟨h2.r, h2.g, fun r hr' => ?_, fun r hr' => ?_, h.lt⟩
  · rcases List.mem_cons.1 hr' with rfl | hr'
    · exact hr
    · exact h2.k r hr'
  · rcases List.mem_cons.1 hr' with rfl | hr'
    · exact h.g.size
    · exact h2.n r hr'
theorem num_nil {T : List Int} : (strOfNums T).toList = [] ↔ T = [] := by
  rw [toList_nil]
  constructor
  · intro h
    have := num_size T
    rw [h] at this
    exact List.eq_nil_of_length_eq_zero this.symm
  · rintro rfl; rfl

end Go.Proofs.YthfonniieaiocaaGreatDoor
