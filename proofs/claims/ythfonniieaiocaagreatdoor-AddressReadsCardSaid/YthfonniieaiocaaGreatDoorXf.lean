/- Contracts of the reference's reader: fail, is, until. Contract of the reference's reader: content. Contracts: the reference's room, Sorted. Contract: the reference's Sorted. Contract: the reference's reader: param. Contract: the reference's reader: param. -/
import Derived.Test.YthfonniieaiocaaGreatDoorWp
import Derived.Test.YthfonniieaiocaaGreatDoorYa
import Derived.BigQuiet
import Derived.Test.YthfonniieaiocaaGreatDoorUp
import Derived.Test.YthfonniieaiocaaGreatDoorWt
set_option linter.unusedVariables false
set_option linter.unusedSimpArgs false
set_option maxRecDepth 100000
namespace Go.Proofs.YthfonniieaiocaaGreatDoor
open Go.RowKit

def rdC (s : ByteArray) (i : Nat) (q : Nat × Int) : List Value := [.string s, .int .i64 (i : Nat), .int .i64 (q.1 : Nat), .int .u8 q.2]
abbrev RdR (w : World) (b : Nat) (s : ByteArray) (i : Nat) (q : Nat × Int) : Prop := Row w b 93 (rdC s i q)
structure RdX (w : World) (b : Nat) (s : ByteArray) (i : Nat) (q : Nat × Int) (w' : World) : Prop where
  r : RdR w' b s i q
  g : w.grownBy w' (some b)
def failQ (q : Nat × Int) (n : Nat) (k : Int) : Nat × Int := if q.2 = 0 then (n, k) else q
theorem failQ_ok {q : Nat × Int} {n : Nat} {k : Int} (h : q.2 = 0) : failQ q n k = (n, k) := if_pos h
theorem failQ_bad {q : Nat × Int} {n : Nat} {k : Int} (h : q.2 ≠ 0) : failQ q n k = q := if_neg h
section
variable {w w1 w2 : World} {b i j : Nat} {s : ByteArray} {q q' : Nat × Int}
theorem rgr_refl (w : World) (r : Option Nat) : w.grownBy w r := ⟨rfl, rfl, rfl, Nat.le_refl _, fun _ _ _ => rfl⟩
theorem rgr_trans {r : Option Nat} (h : w.grownBy w1 r) (h2 : w1.grownBy w2 r) : w.grownBy w2 r := ⟨h2.os.trans h.os, h2.tape.trans h.tape, h2.output.trans h.output, Nat.le_trans h.size h2.size, fun k hk hn => (h2.block k (Nat.lt_of_lt_of_le hk h.size) hn).trans (h.block k hk hn)⟩
theorem rgr_below {r : Option Nat} (h : Below w.heap.size w w1) : w.grownBy w1 r := ⟨h.os, h.tape, h.output, h.size, fun k hk _ => h.block k hk⟩
theorem rgr_set (w : World) (b o : Nat) (v : Value) : w.grownBy (w.setCell ⟨b, o, none⟩ v) (some b) := ⟨rfl, rfl, rfl, by simp [World.setCell], fun k _ hn => Below.heap_setCell w ⟨b, o, none⟩ v k (fun e => hn (by rw [e]))⟩
theorem RdX.refl (h : RdR w b s i q) : RdX w b s i q w := ⟨h, rgr_refl _ _⟩
theorem RdX.then (h : RdX w b s i q w1) (h2 : RdX w1 b s j q' w2) : RdX w b s j q' w2 := ⟨h2.r, rgr_trans h.g h2.g⟩
theorem RdX.call (h : RdX w b s i q w1) (hb : Below w1.heap.size w1 w2) : RdX w b s i q w2 := ⟨h.r.below hb, rgr_trans h.g (rgr_below hb)⟩
theorem RdX.at (h : RdX w b s i q w1) (j : Nat) : RdX w b s j q (w1.setCell ⟨b, 1, none⟩ (.int .i64 (j : Nat))) := ⟨h.r.set 1 _, rgr_trans h.g (rgr_set _ _ _ _)⟩
theorem RdX.lt (h : RdX w b s i q w1) : b < w1.heap.size := h.r.lt
end
theorem rfail_any (w : World) (b i n : Nat) (s : ByteArray) (q : Nat × Int) (k : Int) (h : RdR w b s i q) :
    Calls Tryz.prog 140 #[.pointer (some ⟨b, 0, none⟩), .int .i64 (n : Nat), .int .u8 k] w fun e w' => e = .returned (.tuple #[]) ∧ RdX w b s i (failQ q n k) w' := by
  have H := kd h
  have k3 : w.cell? ⟨b, 3, none⟩ = some (.int .u8 q.2) := h.cell 3
  clear h
  obtain ⟨qn, qk⟩ := q
  dsimp only at k3
  by_cases h0 : qk = 0
  · subst h0
    rw [failQ_ok rfl]
    have k2 : w.cell? ⟨b, 2, none⟩ = some (.int .i64 (qn : Nat)) := H.out.cell 2
    have f2 := H.out.frozen 2
    have f3 := H.out.frozen 3
    have R2 := kd (show RdX w b s i (n, k) ((w.setCell ⟨b, 2, none⟩ (.int .i64 (n : Nat))).setCell ⟨b, 3, none⟩ (.int .u8 k)) from ⟨(H.out.set 2 _).set 3 _, rgr_trans (rgr_set _ _ _ _) (rgr_set _ _ _ _)⟩)
    have k3' : (w.setCell ⟨b, 2, none⟩ (.int .i64 (n : Nat))).cell? ⟨b, 3, none⟩ = some (.int .u8 0) := (H.out.set 2 (.int .i64 (n : Nat))).cell 3
    go_enter Tryz.func140, Tryz.ntmps140
    go_wp2_with fail
    first | exact ⟨rfl, R2.out⟩ | (go_ret; exact ⟨rfl, R2.out⟩) | (go_end0; exact ⟨rfl, R2.out⟩)
  · rw [failQ_bad h0]
    have q0 : (qk == 0) = false := by simpa using h0
    go_enter Tryz.func140, Tryz.ntmps140
    go_wp2_with fail
    first | exact ⟨rfl, .refl H.out⟩ | (go_ret; exact ⟨rfl, .refl H.out⟩) | (go_end0; exact ⟨rfl, .refl H.out⟩)
def isQ (X : List Int) (i : Nat) (q : Nat × Int) (c : Int) : Bool := decide (q.2 = 0) && atL X i c
theorem ris_any (w : World) (b i : Nat) (s : ByteArray) (q : Nat × Int) (c : Int) (h : RdR w b s i q) :
    Calls Tryz.prog 141 #[.pointer (some ⟨b, 0, none⟩), .int .u8 c] w fun e w' => e = .returned (.bool (isQ (byteL s) i q c)) ∧ Below w.heap.size w w' := by
  have k0 : w.cell? ⟨b, 0, none⟩ = some (.string s) := h.cell 0
  have k1 : w.cell? ⟨b, 1, none⟩ = some (.int .i64 (i : Nat)) := h.cell 1
  have k3 : w.cell? ⟨b, 3, none⟩ = some (.int .u8 q.2) := h.cell 3
  have HQ := kd (fun x : BW w => h.later x 0); have HQ1 := kd (fun x : BW w => h.later x 1); have HQ3 := kd (fun x : BW w => h.later x 3)
  have HL := byteL_len s
  obtain ⟨qn, qk⟩ := q
  unfold isQ atL
  rw [HL]
  dsimp only
  clear h
  by_cases h0 : qk = 0
  · subst h0
    by_cases hi : i < s.size
    · have d0 : decide ((i : Int) < (s.size : Int)) = true := by simp; omega
      have d1 := fun w => idx_str s (i := i) hi (z := (i : Int)) rfl w
      have e1 : decide (i < s.size) = true := by simp [hi]
      rw [e1]
      generalize (byteL s).getD i 0 = x at *
      have q0 : ∀ x : BW w, x.w.cell? ⟨b, 0, none⟩ = some (.string s) := fun x => HQ.out x
      have q1 : ∀ x : BW w, x.w.cell? ⟨b, 1, none⟩ = some (.int .i64 (i : Nat)) := fun x => HQ1.out x
      have q3 : ∀ x : BW w, x.w.cell? ⟨b, 3, none⟩ = some (.int .u8 0) := fun x => HQ3.out x
      clear k0 k1 k3
      go_enter Tryz.func141, Tryz.ntmps141
      go_wp2_with fail
      refine region_bw (by kernel_rfl) (by kernel_rfl) ?_
      iterate 31 go_big_quiet_step (fail)
      refine wpQuiet_nil ?_
      rintro _ ⟨y, rfl⟩
      go_wp2_with fail
      go_ret
      exact ⟨by simp, y.h⟩
    · have d0 : decide ((i : Int) < (s.size : Int)) = false := by simp; omega
      have e1 : decide (i < s.size) = false := by simp [hi]
      rw [e1]
      have q0 : ∀ x : BW w, x.w.cell? ⟨b, 0, none⟩ = some (.string s) := fun x => HQ.out x
      have q1 : ∀ x : BW w, x.w.cell? ⟨b, 1, none⟩ = some (.int .i64 (i : Nat)) := fun x => HQ1.out x
      have q3 : ∀ x : BW w, x.w.cell? ⟨b, 3, none⟩ = some (.int .u8 0) := fun x => HQ3.out x
      clear k0 k1 k3
      go_enter Tryz.func141, Tryz.ntmps141
      go_wp2_with fail
      refine region_bw (by kernel_rfl) (by kernel_rfl) ?_
      iterate 31 go_big_quiet_step (fail)
      refine wpQuiet_nil ?_
      rintro _ ⟨y, rfl⟩
      go_wp2_with fail
      go_ret
      exact ⟨by simp, y.h⟩
  · have e0 : (qk == 0) = false := by simpa using h0
    have e1 : decide (qk = 0) = false := by simpa using h0
    rw [e1]
    have q3 : ∀ x : BW w, x.w.cell? ⟨b, 3, none⟩ = some (.int .u8 qk) := fun x => HQ3.out x
    clear k0 k1 k3
    go_enter Tryz.func141, Tryz.ntmps141
    go_wp2_with fail
    refine region_bw (by kernel_rfl) (by kernel_rfl) ?_
    iterate 31 go_big_quiet_step (fail)
    refine wpQuiet_nil ?_
    rintro _ ⟨y, rfl⟩
    go_wp2_with fail
    go_ret
    exact ⟨by simp, y.h⟩
theorem runtil_any (w : World) (b i : Nat) (s st : ByteArray) (q : Nat × Int) (h : RdR w b s i q) (hi : i ≤ s.size) (hs : s.size ≤ 4000000) (hst : st.size ≤ 1000) :
    Calls Tryz.prog 74 #[.pointer (some ⟨b, 0, none⟩), .string st] w fun e w' => e = .returned (.int .i64 (untilL (byteL s) i (byteL st) : Nat)) ∧ w = w' := by
  have k0 : w.cell? ⟨b, 0, none⟩ = some (.string s) := h.cell 0
  have k1 : w.cell? ⟨b, 1, none⟩ = some (.int .i64 (i : Nat)) := h.cell 1
  clear h
  have HL := kd (byteL_len s)
  have UE := kd (show untilL (byteL s) i (byteL st) = skipTo (fun c => !(byteL st).contains c) (byteL s) i from rfl)
  generalize untilL (byteL s) i (byteL st) = R at *
  obtain ⟨X, hX⟩ : ∃ X, byteL s = X := ⟨_, rfl⟩
  have HX := kd hX
  rw [hX] at HL UE
  clear hX
  have CT := kd (fun c w => rcontains_any st c w (by omega))
  go_enter Tryz.func74, Tryz.ntmps74
  go_wp2_with fail
  go_loopw [5] (fun v wr => ∃ k : Nat, k ≤ s.size ∧ v = .int .i64 k ∧ w = wr ∧ Hid (R = skipTo (fun c => !(byteL st).contains c) X k)) (fun v _ => s.size - (intOf v).toNat)
  case atStart => exact ⟨i, hi, rfl, rfl, UE⟩
  case round =>
    clear UE
    obtain ⟨k, hk, rfl, rfl, RK⟩ := hrel
    by_cases hlt : k < s.size
    · have hd : decide ((k : Int) < (s.size : Int)) = true := by simp; omega
      have d1 := fun w => idx_str s (i := k) hlt (z := (k : Int)) rfl w
      rw [HX.out] at d1
      have hlt' : k < X.length := by rw [HL.out]; exact hlt
      have SY := kd (fun h => skip_yes (p := fun c => !(byteL st).contains c) (xs := X) (i := k) hlt' h)
      have SN := kd (fun h => skip_no (p := fun c => !(byteL st).contains c) (xs := X) (i := k) hlt' h)
      clear hlt'
      generalize X.getD k 0 = x at *
      have CX := kd (CT.out x w)
      cases hp : (byteL st).contains x with
      | false =>
        rw [hp] at CX
        have E := kd (RK.out.trans (SY.out (by rw [hp]; rfl)))
        clear SY SN RK hp
        go_wp2_with (go_at_call 96; refine CX.out.mono ?_; rintro e w' ⟨rfl, rfl⟩)
        go_roundw
        case rel => exact ⟨k + 1, by omega, by go_num, by first | rfl | trivial, E⟩
        case measure => simp [intOf]; omega
      | true =>
        rw [hp] at CX
        have E := kd (RK.out.trans (SN.out (by rw [hp]; rfl)))
        clear SY SN RK hp
        go_wp2_with (go_at_call 96; refine CX.out.mono ?_; rintro e w' ⟨rfl, rfl⟩)
        go_ret
        exact ⟨by rw [E.out]; rfl, rfl⟩
    · obtain rfl : k = s.size := by omega
      have hd : decide ((s.size : Int) < (s.size : Int)) = false := by simp
      have E := kd (RK.out.trans (skip_end (by rw [HL.out]; exact Nat.le_refl _)))
      clear RK
      go_wp2_with fail
      go_ret
      exact ⟨by rw [E.out]; rfl, rfl⟩
end Go.Proofs.YthfonniieaiocaaGreatDoor
namespace Go.Proofs.YthfonniieaiocaaGreatDoor
open Go.RowKit

def CtP (w : World) (b : Nat) (s : ByteArray) (i te : Nat) (q : Nat × Int) (W : Option Nat) (T : List Int) (e : Ending) (w' : World) : Prop := match W with
  | none => e = .returned (.string (strOfNums T)) ∧ RdX w b s te q w'
  | some p => e = .returned (.string ⟨#[]⟩) ∧ RdX w b s i (failQ q p 5) w'
theorem CtP.bad {w w' : World} {b i te : Nat} {s : ByteArray} {q : Nat × Int} {W : Option Nat} {T : List Int} {p : Nat} (h : W = some p) (hr : RdX w b s i (failQ q p 5) w') : CtP w b s i te q W T (.returned (.string ⟨#[]⟩)) w' := by subst h; exact ⟨rfl, hr⟩
theorem CtP.good {w w' : World} {b i te : Nat} {s : ByteArray} {q : Nat × Int} {W : Option Nat} {T L : List Int} (h : W = none) (hL : L = T) (hr : RdX w b s te q w') : CtP w b s i te q W T (.returned (.string (strOfNums L))) w' := by subst h; subst hL; exact ⟨rfl, hr⟩
theorem OX.elder {w wr : World} {v u : Value} {xs : List Int} {b o : Nat} (H : OX w v xs wr) (hb : b < w.heap.size) : (wr.setCell ⟨b, o, none⟩ u).ownsRow w.heap.size 5 1 v xs.length (U8 xs) := by
  refine ⟨H.o.1, ?_⟩
  rcases H.o.2 with h0 | ⟨g, cap, cur, h1, h2, h3, h4⟩
  · exact .inl h0
  · exact .inr ⟨g, cap, cur, h1, h2, (Below.heap_setCell wr ⟨b, o, none⟩ u g (show g ≠ b by omega)).trans h3, h4⟩
set_option maxHeartbeats 4000000 in
theorem rcont_any (w : World) (b i te : Nat) (s : ByteArray) (q : Nat × Int) (k : Int) (h : RdR w b s i q) (hi : i ≤ te) (hto : te ≤ s.size) (hs : s.size ≤ 4000000) :
    Calls Tryz.prog 139 #[.pointer (some ⟨b, 0, none⟩), .int .i64 (te : Nat), .int .i64 k] w (CtP w b s i te q (wrongL ((byteL s).take te) k i) (contL (subL (byteL s) i te))) := by
  have H := kd h
  have k1 : w.cell? ⟨b, 1, none⟩ = some (.int .i64 (i : Nat)) := h.cell 1
  have HL := kd (byteL_len s)
  have HB := kd (byteL_by s)
  have ZL : byteL (s.extract 0 te) = (byteL s).take te := by rw [byteL_extract, List.drop_zero, Nat.sub_zero]
  have ZS : (s.extract 0 te).size = te := by rw [← byteL_len, ZL, List.length_take, byteL_len]; omega
  have EY := kd (fun j w (h : j < te) => rescat_any (s.extract 0 te) j w (by omega) (by omega))
  rw [ZL] at EY
  have RE := kd (show wrongL ((byteL s).take te) k i = wrongN ((byteL s).take te) k (te + 1) i by unfold wrongL; rw [List.length_take, byteL_len, Nat.min_eq_left hto])
  have CE := kd (cont_at (xs := byteL s) (a := i) (e := te) (f := te + 1) hi (by rw [byteL_len]; exact hto) (by omega))
  have ZE := kd (show ((byteL s).take te).length = te by rw [List.length_take, byteL_len]; omega)
  have GT := kd (fun j (h : j < te) => show ((byteL s).take te).getD j 0 = (byteL s).getD j 0 by
    rw [List.getD_eq_getElem?_getD, List.getD_eq_getElem?_getD, List.getElem?_take, if_pos h])
  have BAD := kd (fun w' p h hr => CtP.bad (w := w) (w' := w') (b := b) (i := i) (te := te) (s := s) (q := q) (W := wrongL ((byteL s).take te) k i) (T := contL (subL (byteL s) i te)) (p := p) h hr)
  have GOOD := kd (fun w' L h hL hr => CtP.good (w := w) (w' := w') (b := b) (i := i) (te := te) (s := s) (q := q) (W := wrongL ((byteL s).take te) k i) (T := contL (subL (byteL s) i te)) (L := L) h hL hr)
  generalize CtP w b s i te q (wrongL ((byteL s).take te) k i) (contL (subL (byteL s) i te)) = PP at *
  generalize wrongL ((byteL s).take te) k i = W at *
  generalize contL (subL (byteL s) i te) = T at *
  have ER := kd (fun j => escAt_range ((byteL s).take te) j)
  generalize (byteL s).take te = Z at *
  obtain ⟨X, hX⟩ : ∃ X, byteL s = X := ⟨_, rfl⟩
  have HX := kd hX
  rw [hX] at HL HB GT
  clear hX ZL ZS h
  have IC := kd (fun c w => rin_any c k w)
  go_enter Tryz.func139, Tryz.ntmps139
  go_wp2_with fail
  clear k1
  go_loopw [7, 8] (fun v7 v8 wr => ∃ (j f : Nat) (L : List Int), j ≤ te ∧ L.length ≤ j ∧ v8 = .int .i64 (j : Nat) ∧ te + 1 ≤ f + j ∧ Hid (W = wrongN Z k f j) ∧ Hid ((unescN Z f j L).1 = T) ∧ Hid (OX w v7 L wr)) (fun _ v _ => te - (intOf v).toNat)
  case atStart => exact ⟨i, te + 1, [], hi, Nat.zero_le _, rfl, by omega, RE, CE, kd (OX.nil w)⟩
  case round =>
    clear RE CE
    obtain ⟨j, f, L, hj, hL, rfl, hf, RW, RT, HO⟩ := hrel
    by_cases hlt : j < te
    · obtain ⟨f, rfl⟩ : ∃ g, f = g + 1 := ⟨f - 1, by omega⟩
      have hd : decide ((j : Int) < (te : Int)) = true := by simp; omega
      have R0 := H.out.below HO.out.bw
      have k0 : wr.cell? ⟨b, 0, none⟩ = some (.string s) := R0.cell 0
      have d1 := fun w => idx_str s (i := j) (by omega) (z := (j : Int)) rfl w
      have hx2 := HB.out _ (getD_mem (l := X) (i := j) (by rw [HL.out]; omega))
      rw [HX.out] at d1
      have ST := kd (show W = if inC k (X.getD j 0) = true then wrongN Z k f (j + 1) else if escAt Z j < 0 ∨ isCtl (escAt Z j) = true then some j else wrongN Z k f (j + 3) by
        rw [RW.out, wrongN_step, if_neg (by rw [ZE.out]; omega), GT.out j hlt])
      have N1 := kd (show X.getD j 0 ≠ 37 → escAt Z j < 0 from fun h => by
        unfold escAt
        rw [if_pos (.inr (.inl (by rw [GT.out j hlt]; exact h)))]
        decide)
      have U1 := kd (fun (h : X.getD j 0 ≠ 37) => show (unescN Z f (j + 1) (L ++ [X.getD j 0])).1 = T by
        rw [← RT.out, unescN_plain (by rw [ZE.out]; exact hlt) (by rw [GT.out j hlt]; exact h), GT.out j hlt])
      have U3 := kd (fun (h : X.getD j 0 = 37) (h2 : 0 ≤ escAt Z j) => show (unescN Z f (j + 3) (L ++ [escAt Z j])).1 = T by
        rw [← RT.out, unescN_esc (by rw [ZE.out]; exact hlt) (by rw [GT.out j hlt]; exact h) (by omega)])
      have U4 := kd (show 0 ≤ escAt Z j → j + 3 ≤ te from fun h => by
        unfold escAt at h
        split at h
        · omega
        · rename_i h2; rw [not_or] at h2; have := h2.1; rw [ZE.out] at this; omega)
      have EY2 := kd (fun w => EY.out j w hlt)
      have RF := kd (fun w1 (hb : Below w.heap.size w w1) => rfail_any w1 b i j s q 5 (H.out.below hb))
      have RX := kd (fun w1 w2 (hb : Below w.heap.size w w1) (hr : RdX w1 b s i (failQ q j 5) w2) => show RdX w b s i (failQ q j 5) w2 from ((RdX.refl H.out).call hb).then hr)
      have ER2 := ER.out j
      generalize escAt Z j = ec at *
      generalize X.getD j 0 = c at *
      obtain ⟨er1, er2⟩ := ER2
      obtain ⟨c0, c1⟩ := hx2
      have es : (te : Int) ≤ (s.size : Int) := by omega
      clear R0 RW GT RT ER EY
      by_cases h37 : c = 37
      · subst h37
        have S2 := kd (show W = if ec < 0 ∨ isCtl ec = true then some j else wrongN Z k f (j + 3) by rw [ST.out, inC_37]; rfl)
        clear ST U1 N1
        by_cases hn : ec < 0
        · have E := kd (show W = some j by rw [S2.out, if_pos (.inl hn)])
          have q1 : decide (ec < 0) = true := by simp [hn]
          clear S2 U3 U4
          go_wp2_with fail
          refine (EY2.out _).mono ?_
          rintro _ w1 ⟨rfl, hb1⟩
          have B1 := kd (bthen HO.out.bw hb1)
          clear hb1 k0
          go_wp2_with fail
          refine (RF.out _ B1.out).mono ?_
          rintro _ w2 ⟨rfl, hr2⟩
          have X2 := kd (RX.out _ _ B1.out hr2)
          clear hr2
          go_wp2_with fail
          first | exact BAD.out _ _ E.out X2.out | (go_ret; exact BAD.out _ _ E.out X2.out)
        · have q1 : decide (ec < 0) = false := by simp; omega
          replace hn : 0 ≤ ec := by omega
          have i3 := U4.out hn
          have CT := kd (fun w => refcontrol_any ec w hn er2)
          cases hc : isCtl ec with
          | true =>
            rw [hc] at CT
            have E := kd (show W = some j by rw [S2.out, if_pos (.inr hc)])
            clear S2 U3 U4 hc
            go_wp2_with fail
            refine (EY2.out _).mono ?_
            rintro _ w1 ⟨rfl, hb1⟩
            have B1 := kd (bthen HO.out.bw hb1)
            clear hb1 k0
            go_wp2_with (go_at_call 154; refine (CT.out _).mono ?_; rintro e w' ⟨rfl, rfl⟩)
            refine (RF.out _ B1.out).mono ?_
            rintro _ w2 ⟨rfl, hr2⟩
            have X2 := kd (RX.out _ _ B1.out hr2)
            clear hr2
            go_wp2_with fail
            first | exact BAD.out _ _ E.out X2.out | (go_ret; exact BAD.out _ _ E.out X2.out)
          | false =>
            rw [hc] at CT
            have E := kd (show W = wrongN Z k f (j + 3) by rw [S2.out, if_neg]; rw [hc]; simp; omega)
            have E2 := kd (U3.out rfl hn)
            clear S2 U3 U4 hc
            go_wp2_with fail
            refine (EY2.out _).mono ?_
            rintro _ w1 ⟨rfl, hb1⟩
            have HO1 := kd (HO.out.step hb1)
            clear hb1 k0
            go_wp2_with (first | (go_at_call 154; refine (CT.out _).mono ?_; rintro e w' ⟨rfl, rfl⟩) | (with_reducible refine wpList_push1 rfl (.tmp 56) (.tmp 59) rfl _ L rfl HO1.out ec rfl (by omega) ?_))
            intro v3 w3 L3 E3 l3 M3
            go_wp2_with fail
            go_roundw
            case rel => exact ⟨j + 3, f, L3, by omega, by omega, by go_num, by omega, E, kd (by rw [E3.out]; exact E2.out), M3⟩
            case measure => simp [intOf]; omega
      · have q0 : (c == 37) = false := by simpa using h37
        have q0' : ((c : Int) == 37) = false := by simpa using h37
        have N2 := N1.out h37
        have E2 := kd (U1.out h37)
        have IX := kd (IC.out c)
        cases hp : inC k c with
        | true =>
          rw [hp] at ST IX
          have E := kd (show W = wrongN Z k f (j + 1) from ST.out)
          clear ST U1 U3 U4 N1 hp EY2 h37
          go_wp2_with (first | (go_at_call 30; refine (IX.out _).mono ?_; rintro e w' ⟨rfl, rfl⟩) | (with_reducible refine wpList_push1 rfl (.tmp 56) (.tmp 59) rfl _ L rfl HO.out c rfl (by omega) ?_))
          intro v3 w3 L3 E3 l3 M3
          go_wp2_with fail
          go_roundw
          case rel => exact ⟨j + 1, f, L3, by omega, by omega, by go_num, by omega, E, kd (by rw [E3.out]; exact E2.out), M3⟩
          case measure => simp [intOf]; omega
        | false =>
          rw [hp] at ST IX
          have E := kd (show W = some j by rw [ST.out]; simp [N2])
          clear ST U1 U3 U4 N1 hp EY2 h37 E2
          go_wp2_with (go_at_call 30; refine (IX.out _).mono ?_; rintro e w' ⟨rfl, rfl⟩)
          refine (RF.out _ HO.out.bw).mono ?_
          rintro _ w2 ⟨rfl, hr2⟩
          have X2 := kd (RX.out _ _ HO.out.bw hr2)
          clear hr2 k0
          go_wp2_with fail
          first | exact BAD.out _ _ E.out X2.out | (go_ret; exact BAD.out _ _ E.out X2.out)
    · obtain rfl : j = te := by omega
      have hd : decide ((j : Int) < (j : Int)) = false := by simp
      obtain ⟨f, rfl⟩ : ∃ g, f = g + 1 := ⟨f - 1, by omega⟩
      have E := kd (show W = none by rw [RW.out, wrongN_end (by rw [ZE.out]; exact Nat.le_refl _)])
      have EL := kd (show L = T by rw [← RT.out, unescN_end (by rw [ZE.out]; exact Nat.le_refl _)])
      have R0 := kd (H.out.below HO.out.bw)
      have f1 := R0.out.frozen 1
      have k1 : wr.cell? ⟨b, 1, none⟩ = some (.int .i64 (i : Nat)) := R0.out.cell 1
      have RR := kd (((RdX.refl H.out).call HO.out.bw).at j)
      have OO := kd (HO.out.elder (o := 1) (u := .int .i64 (j : Nat)) (show b < w.heap.size from Row.lt H.out))
      clear RW RT
      go_upto_region 17 with (fail)
      clear f1 k1
      generalize wr.setCell ⟨b, 1, none⟩ (.int .i64 (j : Nat)) = w9 at *
      have cv := conv_owned OO.out
      go_wp2_with fail
      first | exact GOOD.out _ _ E.out EL.out RR.out | (go_ret; exact GOOD.out _ _ E.out EL.out RR.out)
end Go.Proofs.YthfonniieaiocaaGreatDoor
namespace Go.Proofs.YthfonniieaiocaaGreatDoor
open Go.RowKit

def toPrm (p : Pm) : Prm := ⟨p.n, p.v, p.h⟩
theorem prms_pms (l : List Pm) : prms (l.map toPrm) = pms l := by
  unfold prms pms
  rw [List.flatMap_map]; rfl
def roomF (l : List Pm) (nm : List Int) : Int := if (l.any fun p => lowS p.n == lowS nm) = true then 7 else if 16 ≤ l.length then 4 else 0
theorem findP_any (l : List Pm) (nm : List Int) : decide (0 ≤ findV (findP (l.map toPrm) nm)) = l.any fun p => lowS p.n == lowS nm := by
  rcases find_spec (l.map toPrm) nm with ⟨h1, h2⟩ | ⟨i, p, h1, h2, h3⟩
  · rw [h1]
    symm
    rw [show decide (0 ≤ findV none) = false by decide, List.any_eq_false]
    intro p hp
    have := List.find?_eq_none.1 h2 (toPrm p) (List.mem_map.2 ⟨p, hp, rfl⟩)
    exact this
  · rw [h1]
    symm
    rw [show decide (0 ≤ findV (some i)) = true by unfold findV; simp, List.any_eq_true]
    have hm := List.mem_of_find?_eq_some h3
    obtain ⟨q, hq, rfl⟩ := List.mem_map.1 hm
    have h4 := List.find?_some (p := fun p : Prm => lowS p.n == lowS nm) h3
    exact ⟨q, hq, h4⟩
theorem rroom_any (A : Option Addr) (n c : Nat) (l : List Pm) (nm : List Int) (w : World) (hA : Rds w w.heap.size A (pms l)) (hn : l.length = n) (hl : ∀ p ∈ l, pmSz p) (hN : n ≤ 16000000) (hb : By nm) (hs : nm.length ≤ 4000000) :
    Calls Tryz.prog 115 #[.slice A n c, .string (strOfNums nm)] w fun e w' => e = .returned (.int .u8 (roomF l nm)) ∧ Below w.heap.size w w' := by
  have FA := find_any A n c (l.map toPrm) (strOfNums nm) w (by rw [prms_pms]; exact hA) (by rw [List.length_map]; exact hn) (fun p hp => by
    obtain ⟨q, hq, rfl⟩ := List.mem_map.1 hp
    exact hl q hq) hN (by rw [num_size]; exact hs)
  rw [byteL_str hb] at FA
  have FN := kd FA
  have FE := findP_any l nm
  have E := kd (show roomF l nm = if (l.any fun p => lowS p.n == lowS nm) = true then 7 else if 16 ≤ n then 4 else 0 by subst hn; rfl)
  generalize findV (findP (l.map toPrm) nm) = fv at *
  generalize (l.any fun p => lowS p.n == lowS nm) = a at *
  generalize roomF l nm = R at *
  clear FA hA hn hl
  go_enter Tryz.func115, Tryz.ntmps115
  go_wp2_with fail
  refine FN.out.mono ?_
  rintro _ w1 ⟨rfl, hb1⟩
  have B1 := kd hb1
  clear hb1 FN
  cases a with
  | true =>
    have E2 := kd (show R = 7 from E.out)
    clear E
    go_wp2_with fail
    go_ret
    exact ⟨by rw [E2.out]; rfl, B1.out⟩
  | false =>
    by_cases h16 : 16 ≤ n
    · have E2 := kd (show R = 4 by rw [E.out, if_neg (by decide), if_pos h16])
      have d1 : decide ((16 : Int) ≤ (n : Int)) = true := by simp; omega
      clear E
      go_wp2_with fail
      go_ret
      exact ⟨by rw [E2.out]; rfl, B1.out⟩
    · have E2 := kd (show R = 0 by rw [E.out, if_neg (by decide), if_neg h16])
      have d1 : decide ((16 : Int) ≤ (n : Int)) = false := by simp; omega
      clear E
      go_wp2_with fail
      go_ret
      exact ⟨by rw [E2.out]; rfl, B1.out⟩
theorem VX.cap {w w' : World} {v : Value} {n : Nat} {cs : List Value} (X : VX 56 3 w v n cs w') : ∃ A c, v = .slice A n c ∧ n ≤ c ∧ c ≤ maxLen ∧ (A = none → c = 0) ∧ Rds w' w'.heap.size A cs := by
  have hl := X.o.1
  rcases X.o.2 with ⟨rfl, rfl⟩ | ⟨g, cap, cur, rfl, hb, hg, hc, hm, hs, ht⟩
  · exact ⟨none, 0, rfl, Nat.le_refl _, Nat.zero_le _, fun _ => rfl, fun h => by rw [List.eq_nil_of_length_eq_zero (l := cs) (by simpa using hl)] at h; simp at h⟩
  · refine ⟨some ⟨g, 0, none⟩, cap, rfl, hc, hm, (fun h => by cases h), fun _ => ?_⟩
    rcases X.form with ⟨h1, _⟩ | ⟨g', cap', h1, _, _, h4, h5⟩
    · cases h1
    · cases h1
      exact ⟨g, 0, rfl, h4, fun j u hu => by rw [Nat.zero_add]; exact h5 j u hu⟩
theorem wpList_appNone {w : World} {ops : Array Oper} {rest : List Oper} {o : Oper} {a : Act} {Q : Exit → Act → World → Prop} (hgd : o.guard = none) (s x : Operand)
    (ho : o.op = .call { callee := .builtin .append, args := #[s, x], argTypes := #[30, 30] }) {w0 : World} {v : Value} {n : Nat} {cs : List Value} (X : VX 56 3 w0 v n cs w) (hs : a.eval s = v) (A : Option Addr) (c : Nat) (hx : a.eval x = .slice A 0 c)
    (h : wpList Tryz.prog ops Q rest (a.put o.dst v) w) : wpList Tryz.prog ops Q (o :: rest) a w := by
  obtain ⟨i, hi, hz, hsz, hbt⟩ := infoPm
  refine wpList_value hgd _ w ?_ h
  unfold execOp
  rcases X.o.2 with ⟨rfl, rfl⟩ | ⟨g, cap, cur, rfl, hb, hg, hc, hm, hs', ht⟩
  · cases A with
    | none => simp [ho, resolve, invoke, builtin, hs, hx, Builtin.append_, run_underlying Tryz.underlying30, sizeOf, typeInfo, hi, Builtin.lenOf, Builtin.firstCells, loadCells, loadCellsFrom, Sem.run_bind, Result.andThen_ok]
    | some b => simp [ho, resolve, invoke, builtin, hs, hx, Builtin.append_, run_underlying Tryz.underlying30, sizeOf, typeInfo, hi, Builtin.lenOf, Builtin.firstCells, loadCells, loadCellsFrom, Sem.run_bind, Result.andThen_ok]
  · cases A with
    | none => simp [ho, resolve, invoke, builtin, hs, hx, Builtin.append_, run_underlying Tryz.underlying30, sizeOf, typeInfo, hi, Builtin.lenOf, Builtin.firstCells, loadCells, loadCellsFrom, Sem.run_bind, Result.andThen_ok, hc]; rfl
    | some b => simp [ho, resolve, invoke, builtin, hs, hx, Builtin.append_, run_underlying Tryz.underlying30, sizeOf, typeInfo, hi, Builtin.lenOf, Builtin.firstCells, loadCells, loadCellsFrom, Sem.run_bind, Result.andThen_ok, hc]; rfl
theorem wpList_appPm {w wr : World} {ops : Array Oper} {rest : List Oper} {o : Oper} {a : Act} {Q : Exit → Act → World → Prop} (hgd : o.guard = none) (s x : Operand)
    (ho : o.op = .call { callee := .builtin .append, args := #[s, x], argTypes := #[30, 30] }) {v : Value} {l : List Pm} (hs : a.eval s = v) (H : VX 56 3 w v l.length (pms l) wr)
    (k : List Pm) (A : Option Addr) (m c : Nat) (hm : k.length = m) (hx : a.eval x = .slice A m c) (hR : Rds wr wr.heap.size A (pms k)) (hb : l.length + k.length ≤ 16000000)
    (h : ∀ v' w', Hid (VX 56 3 w v' (l ++ k).length (pms (l ++ k)) w') → wpList Tryz.prog ops Q rest (a.put o.dst v') w') : wpList Tryz.prog ops Q (o :: rest) a wr := by
  obtain ⟨i, hi, hz, hsz, hbt⟩ := infoPm
  subst hm
  by_cases h0 : k = []
  · subst h0
    exact wpList_appNone hgd s x ho H hs A c hx (h _ _ (kd (by rw [List.append_nil]; exact H)))
  · have hpos : 0 < (pms k).length := by
      rw [pms_len]
      cases k with
      | nil => exact absurd rfl h0
      | cons p r => rw [List.length_cons]; omega
    obtain ⟨b, o', rfl, _, hc⟩ := hR hpos
    refine wpList_append_own _ hgd s x 30 ho w.heap.size 56 i _ 3 40 Tryz.underlying30 hi hz hsz hbt rfl (by omega) v l.length (pms l) hs H.o ⟨b, o', none⟩ k.length c (pms k) hx (pms_len k) (fun j u hu => ?_) (pms_one k) (by unfold maxLen; omega) (by omega) H.bw.size ?_
    · rw [Addr.add_mid]; exact hc j u hu
    · intro v' w' h2 h3 _
      refine h v' w' (kd ⟨?_, H.bw.grown h3 H.bw.size (own_block H.o)⟩)
      rw [List.length_append, show pms (l ++ k) = pms l ++ pms k by unfold pms; rw [List.flatMap_append]]
      exact h2
end Go.Proofs.YthfonniieaiocaaGreatDoor
namespace Go.Proofs.YthfonniieaiocaaGreatDoor
open Go.RowKit

theorem rds_drop {w : World} {B b o : Nat} {l : List Pm} (h : Rds w B (some ⟨b, o, none⟩) (pms l)) (k : Nat) : Rds w B (some ⟨b, o + k * 3, none⟩) (pms (l.drop k)) := fun hn => by
  have hl : (pms l).length = (pms (l.take k)).length + (pms (l.drop k)).length := by rw [← List.length_append, ← pms_take]
  obtain ⟨b', o', e, hb, hc⟩ := h (by omega)
  cases e
  refine ⟨b, o + k * 3, rfl, hb, fun j u hu => ?_⟩
  have hk : k ≤ l.length := by
    rw [pms_len, List.length_drop] at hn; omega
  have := hc (k * 3 + j) u (by
    rw [pms_take l k, List.getElem?_append_right (by rw [pms_len, List.length_take]; omega), pms_len, List.length_take, Nat.min_eq_left hk, show k * 3 + j - k * 3 = j by omega]
    exact hu)
  rwa [← Nat.add_assoc] at this
theorem gtr_num {x y : List Int} (hx : By x) (hy : By y) : (!Op.bytesLess (strOfNums y).toList (strOfNums x).toList && !((strOfNums y).toList == (strOfNums x).toList)) = ltL x y := by
  rw [less_num hy hx, tl_beq, byteL_str hy, byteL_str hx]
  cases h1 : ltL y x with
  | true => rw [ltL_asym h1]; rfl
  | false =>
    cases h2 : ltL x y with
    | false =>
      have := ltL_tri h1 h2
      subst this
      simp
    | true =>
      have hne : y ≠ x := fun h => by
        subst h
        rw [ltL_irr] at h2
        cases h2
      simp [hne]
theorem VX.capf {w w' : World} {v : Value} {n : Nat} {cs : List Value} (X : VX 56 3 w v n cs w') : ∃ A c, v = .slice A n c ∧ n ≤ c ∧ c ≤ maxLen ∧ ((A = none ∧ c = 0) ∨ ∃ g, A = some ⟨g, 0, none⟩) ∧ Rds w' w'.heap.size A cs := by
  obtain ⟨A, c, h1, h2, h3, h4, h5⟩ := X.cap
  refine ⟨A, c, h1, h2, h3, ?_, h5⟩
  rcases X.o.2 with ⟨rfl, _⟩ | ⟨g, cap, cur, rfl, _⟩
  · cases h1; exact .inl ⟨rfl, rfl⟩
  · cases h1; exact .inr ⟨g, rfl⟩
set_option maxHeartbeats 8000000 in
theorem rsorted_any (A : Option Addr) (n c : Nat) (l : List Pm) (w : World) (hA : Rds w w.heap.size A (pms l)) (hn : l.length = n) (hN : n ≤ 1000000) (hl : ∀ p ∈ l, By p.n) :
    Calls Tryz.prog 47 #[.slice A n c] w fun e w' => ∃ v, e = .returned v ∧ VX 56 3 w v n (pms (sortPm l)) w' := by
  have HN := kd hn; have HL := kd hl
  have RA := kd (fun wr (hb : Below w.heap.size w wr) => show Rds wr wr.heap.size A (pms l) from (hA.below hb).up hb.size)
  clear hA hn hl
  go_enter Tryz.func47, Tryz.ntmps47
  go_wp2_with fail
  go_loopw [3, 4] (fun v3 v4 wr => ∃ (i : Nat) (v : Value), i ≤ n ∧ v3 = v ∧ v4 = .int .i64 i ∧ Hid (VX 56 3 w v i (pms (sortPm (l.take i))) wr)) (fun _ v _ => n - (intOf v).toNat)
  case atStart => exact ⟨0, _, Nat.zero_le _, rfl, rfl, kd (VX.nil _ _ _)⟩
  case round =>
    obtain ⟨i, v, hi, rfl, rfl, HV⟩ := hrel
    by_cases hlt : i < n
    · have hd : decide (i < n) = true := by simp [hlt]
      have hd2 : decide ((i : Int) < (n : Int)) = true := by simp; omega
      obtain ⟨p, hp⟩ : ∃ p, l[i]? = some p := ⟨_, List.getElem?_eq_getElem (by rw [HN.out]; exact hlt)⟩
      obtain ⟨x1, o1, rfl, hx1, hc1⟩ := RA.out wr HV.out.bw (by rw [pms_len, HN.out]; omega)
      have G1 := kd (show wr.rangeAt x1 (o1 + i * 3) (pmC p) from fun j v hv => Rds.range2 hc1 (i * 3) _ (pms_at hp) j v hv)
      have PB := kd (HL.out p (List.mem_of_getElem? hp))
      have SB := kd (show ∀ q ∈ sortPm (l.take i), By q.n from fun q hq => HL.out q (List.mem_of_mem_take ((sort_perm _).mem_iff.1 hq)))
      have SN := kd (show sortPm (l.take (i + 1)) = insPm p (sortPm (l.take i)) by rw [List.take_add_one, hp]; exact sort_snoc _ _)
      have SA := kd (sort_asc (l.take i))
      have SL := kd (show (sortPm (l.take i)).length = i by rw [sort_len, List.length_take, HN.out]; omega)
      clear hc1 hp
      generalize sortPm (l.take i) = S at *
      obtain ⟨AO, cO, rfl, hcO, hcM, hcF, hRO⟩ := HV.out.capf
      have RO := kd (fun wi (hb : Below wr.heap.size wr wi) => show Rds wi wi.heap.size AO (pms S) from (hRO.below hb).up hb.size)
      have G2 := kd (fun wi (hb : Below wr.heap.size wr wi) => show wi.rangeAt x1 (o1 + i * 3) (pmC p) from fun j v hv => (hb.cell (p := ⟨x1, _, none⟩) hx1).trans (G1.out j v hv))
      have BWr := kd HV.out.bw
      clear hRO G1 HV
      go_wp2_with fail
      go_loopw [5] (fun v wi => ∃ k : Nat, k ≤ i ∧ v = .int .i64 k ∧ Hid (∀ q ∈ S.drop k, ltL p.n q.n = true) ∧ Hid (Below wr.heap.size wr wi)) (fun v _ => (intOf v).toNat)
      case atStart => exact ⟨i, Nat.le_refl _, rfl, kd (fun q hq => by rw [List.drop_of_length_le (by rw [SL.out]; exact Nat.le_refl _)] at hq; cases hq), kd (Below.refl _ _)⟩
      case round =>
        obtain ⟨k, hk, rfl, DR, HB⟩ := hrel
        by_cases hk0 : k = 0
        · have STOP := kd (show k = 0 ∨ ∃ q, S[k - 1]? = some q ∧ ltL p.n q.n = false from .inl hk0)
          have g0 : decide (0 < k) = false := by simp; omega
          clear hk0
          go_wp2_with fail
          refine region_bw (by kernel_rfl) (by kernel_rfl) ?_
          iterate 16 go_big_quiet_step (fail)
          refine wpQuiet_nil ?_
          rintro _ ⟨y, rfl⟩
          have EI := kd (show sortPm (l.take (i + 1)) = ((([] ++ S.take k) ++ [p]) ++ S.drop k) by
            rw [SN.out, ins_at SA.out (by rw [SL.out]; exact hk) (asc_take SA.out (by rw [SL.out]; exact hk) STOP.out) DR.out]
            simp)
          have B5 := kd (bthen HB.out y.h)
          generalize y.w = w5 at *
          have V0 := kd (show VX 56 3 w5 (.slice none 0 0) ([] : List Pm).length (pms []) w5 from VX.nil _ _ _)
          have LK : (S.take k).length = k := by rw [List.length_take, SL.out]; omega
          have LD : (S.drop k).length = i - k := by rw [List.length_drop, SL.out]
          have kc : (k : Int) ≤ (cO : Int) := by omega
          have ki : (k : Int) ≤ (i : Int) := by omega
          have RT := kd (rds_take (RO.out _ B5.out) k)
          clear STOP DR SN HB
          obtain ⟨pn, pv, ph⟩ := p
          have G3 := kd (fun w6 (hb : Below w5.heap.size w5 w6) => show w6.rangeAt x1 (o1 + i * 3) [.string (strOfNums pn), .string (strOfNums pv), .bool ph] from G2.out _ (bthen B5.out hb))
          rcases hcF with ⟨rfl, h1⟩ | ⟨x2, rfl⟩
          · obtain rfl : cO = 0 := h1
            obtain rfl : i = 0 := by omega
            obtain rfl : k = 0 := by omega
            obtain rfl : S = [] := List.eq_nil_of_length_eq_zero SL.out
            replace EI := kd (show sortPm (l.take (0 + 1)) = ([] ++ [(⟨pn, pv, ph⟩ : Pm)]) ++ [] from EI.out)
            replace G3 := kd (G3.out w5 (Below.refl _ _))
            have RN := kd (fun w7 => show Rds w7 w7.heap.size none (pms []) from fun h => by simp [pms] at h)
            clear RT LK LD kc ki RO SA SB
            have B1 : ([] : List Pm).length + 1 ≤ 16777216 := by show 0 + 1 ≤ _; omega
            have B2 : (([] : List Pm) ++ [(⟨pn, pv, ph⟩ : Pm)]).length + ([] : List Pm).length ≤ 16000000 := by show 1 + 0 ≤ _; omega
            replace B1 := kd B1
            replace B2 := kd B2
            go_upto_region 10 with fail
            generalize hv0 : Value.slice none 0 0 = v0 at V0 ⊢
            replace hv0 := kd hv0
            go_upto_region 11 with (first
              | (with_reducible refine wpList_load_mid rfl 56 (.tmp 41) rfl x1 (o1 + 0 * 3) rfl [.string (strOfNums pn), .string (strOfNums pv), .bool ph] _ G3.out Tryz.underlying56 rfl (sizePm _ _ _) ?_)
              | (with_reducible refine wpList_pushF rfl (.tmp 38) (.tmp 43) rfl rfl V0.out ⟨pn, pv, ph⟩ rfl B1.out ?_; intro v7 w7 V7))
            replace hv0 := hv0.out
            subst hv0
            go_wp2_with (with_reducible refine wpList_appPm rfl (.tmp 45) (.tmp 48) rfl rfl V7.out [] none 0 0 rfl rfl (RN.out w7) B2.out ?_; intro v8 w8 V8)
            have V9 := kd (V8.out.base (bthen BWr.out B5.out))
            rw [← EI.out] at V9
            go_roundw
            case rel => exact ⟨0 + 1, v8, by omega, rfl, by go_num, kd (by have h := V9.out; rw [sort_len, List.length_take, HN.out, Nat.min_eq_left (by omega)] at h; exact h)⟩
            case measure => simp [intOf]; omega
          · have RD := kd (fun w6 (hb : Below w5.heap.size w5 w6) => show Rds w6 w6.heap.size (some ⟨x2, k * 3, none⟩) (pms (S.drop k)) by have h := rds_drop (RO.out w6 (bthen B5.out hb)) k; rw [Nat.zero_add] at h; exact h)
            have B1 := kd (show ([] : List Pm).length + (S.take k).length ≤ 16000000 by rw [LK]; show 0 + k ≤ _; omega)
            have B2 := kd (show (([] : List Pm) ++ S.take k).length + 1 ≤ 16777216 by rw [List.length_append, LK]; show 0 + k + 1 ≤ _; omega)
            have B3 := kd (show ((([] : List Pm) ++ S.take k) ++ [(⟨pn, pv, ph⟩ : Pm)]).length + (S.drop k).length ≤ 16000000 by rw [List.length_append, List.length_append, LK, LD]; show 0 + k + 1 + (i - k) ≤ _; omega)
            go_upto_region 10 with (with_reducible refine wpList_appPm rfl (.tmp 33) (.tmp 36) rfl rfl V0.out (S.take k) (some ⟨x2, 0, none⟩) k cO LK rfl RT.out B1.out ?_; intro v6 w6 V6)
            have G4 := kd (G3.out w6 V6.out.bw)
            go_upto_region 11 with (first
              | (with_reducible refine wpList_load_mid rfl 56 (.tmp 41) rfl x1 (o1 + i * 3) rfl [.string (strOfNums pn), .string (strOfNums pv), .bool ph] _ G4.out Tryz.underlying56 rfl (sizePm _ _ _) ?_)
              | (with_reducible refine wpList_pushF rfl (.tmp 38) (.tmp 43) rfl rfl V6.out ⟨pn, pv, ph⟩ rfl B2.out ?_; intro v7 w7 V7))
            have RD2 := kd (RD.out w7 V7.out.bw)
            have kcn : k ≤ cO := by omega
            clear kc
            rcases Nat.eq_or_lt_of_le kcn with e0 | kc
            · have RD3 := kd (show Rds w7 w7.heap.size (some ⟨x2, 0, none⟩) (pms (S.drop k)) from fun h => by
                rw [pms_len, List.length_drop, SL.out] at h; omega)
              have LD0 : (S.drop k).length = 0 := by rw [LD]; omega
              subst e0
              clear RD2
              go_wp2_with (with_reducible refine wpList_appPm rfl (.tmp 45) (.tmp 48) rfl rfl V7.out (S.drop k) (some ⟨x2, 0, none⟩) 0 0 LD0 rfl RD3.out B3.out ?_; intro v8 w8 V8)
              have V9 := kd (V8.out.base (bthen BWr.out B5.out))
              rw [← EI.out] at V9
              go_roundw
              case rel => exact ⟨i + 1, v8, by omega, rfl, by go_num, kd (by have h := V9.out; rw [sort_len, List.length_take, HN.out, Nat.min_eq_left (by omega)] at h; exact h)⟩
              case measure => simp [intOf]; omega
            · have kne : k ≠ cO := by omega
              go_wp2_with (with_reducible refine wpList_appPm rfl (.tmp 45) (.tmp 48) rfl rfl V7.out (S.drop k) (some ⟨x2, k * 3, none⟩) (i - k) (cO - k) LD rfl RD2.out B3.out ?_; intro v8 w8 V8)
              have V9 := kd (V8.out.base (bthen BWr.out B5.out))
              rw [← EI.out] at V9
              go_roundw
              case rel => exact ⟨i + 1, v8, by omega, rfl, by go_num, kd (by have h := V9.out; rw [sort_len, List.length_take, HN.out, Nat.min_eq_left (by omega)] at h; exact h)⟩
              case measure => simp [intOf]; omega
        · obtain ⟨k', hk'⟩ : ∃ k', k = k' + 1 := ⟨k - 1, by omega⟩
          have g0 : decide ((0 : Int) < (k : Int)) = true := by simp; omega
          have g1 : (k : Int) - 1 = (k' : Int) := by omega
          have g2 : k' < i := by omega
          obtain ⟨q, hq⟩ : ∃ q, S[k']? = some q := ⟨_, List.getElem?_eq_getElem (by rw [SL.out]; exact g2)⟩
          have STOP := kd (fun (h : ltL p.n q.n = false) => show k = 0 ∨ ∃ q, S[k - 1]? = some q ∧ ltL p.n q.n = false from .inr ⟨q, by rw [hk', Nat.add_sub_cancel]; exact hq, h⟩)
          have DR2 := kd (fun (h : ltL p.n q.n = true) => show ∀ q ∈ S.drop k', ltL p.n q.n = true from fun q' hq' => by
            rw [dropPm hq] at hq'
            rcases List.mem_cons.1 hq' with rfl | hq'
            · exact h
            · exact DR.out q' (by rw [hk']; exact hq'))
          obtain ⟨x2, rfl⟩ : ∃ g, AO = some ⟨g, 0, none⟩ := by
            rcases hcF with ⟨_, h1⟩ | h
            · omega
            · exact h
          clear hcF
          obtain ⟨x2', o2, hAO, hx2, hc2⟩ := RO.out _ HB.out (by rw [pms_len, SL.out]; omega)
          obtain ⟨e1, rfl⟩ : x2' = x2 ∧ o2 = 0 := by cases hAO; exact ⟨rfl, rfl⟩
          rw [e1] at hx2 hc2
          clear hAO e1
          have LT := gtr_num PB.out (SB.out q (List.mem_of_getElem? hq))
          have F1 := kd (Rds.range2 hc2 (k' * 3) _ (pms_at hq))
          have F2 := kd (G2.out _ HB.out)
          have qA : ∀ x : BW wr, x.w.cell? ⟨x2, k' * 3, none⟩ = some (.string (strOfNums q.n)) := fun x => (x.h.cell (p := ⟨x2, _, none⟩) hx2).trans (by have h := F1.out 0 _ rfl; rw [Nat.zero_add] at h; exact h)
          have qB : ∀ x : BW wr, x.w.cell? ⟨x1, o1 + i * 3, none⟩ = some (.string (strOfNums p.n)) := fun x => (x.h.cell (p := ⟨x1, _, none⟩) (Nat.lt_of_lt_of_le hx1 HB.out.size)).trans (F2.out 0 _ rfl)
          clear hc2 hq F1 F2 hk0
          cases hlt2 : ltL p.n q.n with
          | true =>
            rw [hlt2] at LT
            have D2 := kd (DR2.out hlt2)
            clear STOP DR2 hlt2
            generalize strOfNums q.n = tq at *
            generalize strOfNums p.n = tp at *
            go_wp2_with fail
            refine region_bw (by kernel_rfl) (by kernel_rfl) ?_
            iterate 16 go_big_quiet_step (fail)
            refine wpQuiet_nil ?_
            rintro _ ⟨y, rfl⟩
            have B6 := kd (bthen HB.out y.h)
            go_wp2_with fail
            go_roundw
            case rel => exact ⟨k', by omega, by go_num, D2, B6⟩
            case measure => simp [intOf]; omega
          | false =>
            rw [hlt2] at LT
            replace STOP := kd (STOP.out hlt2)
            clear DR2 hlt2
            generalize strOfNums q.n = tq at *
            generalize htp : strOfNums p.n = tp at *
            go_wp2_with fail
            refine region_bw (by kernel_rfl) (by kernel_rfl) ?_
            iterate 16 go_big_quiet_step (fail)
            refine wpQuiet_nil ?_
            rintro _ ⟨y, rfl⟩
            clear qA qB LT htp hk' g1 g2 g0
            have EI := kd (show sortPm (l.take (i + 1)) = ((([] ++ S.take k) ++ [p]) ++ S.drop k) by
              rw [SN.out, ins_at SA.out (by rw [SL.out]; exact hk) (asc_take SA.out (by rw [SL.out]; exact hk) STOP.out) DR.out]
              simp)
            have B5 := kd (bthen HB.out y.h)
            generalize y.w = w5 at *
            have V0 := kd (show VX 56 3 w5 (.slice none 0 0) ([] : List Pm).length (pms []) w5 from VX.nil _ _ _)
            have LK : (S.take k).length = k := by rw [List.length_take, SL.out]; omega
            have LD : (S.drop k).length = i - k := by rw [List.length_drop, SL.out]
            have kc : (k : Int) ≤ (cO : Int) := by omega
            have ki : (k : Int) ≤ (i : Int) := by omega
            have RT := kd (rds_take (RO.out _ B5.out) k)
            clear STOP DR SN HB
            obtain ⟨pn, pv, ph⟩ := p
            have G3 := kd (fun w6 (hb : Below w5.heap.size w5 w6) => show w6.rangeAt x1 (o1 + i * 3) [.string (strOfNums pn), .string (strOfNums pv), .bool ph] from G2.out _ (bthen B5.out hb))
            have RD := kd (fun w6 (hb : Below w5.heap.size w5 w6) => show Rds w6 w6.heap.size (some ⟨x2, k * 3, none⟩) (pms (S.drop k)) by have h := rds_drop (RO.out w6 (bthen B5.out hb)) k; rw [Nat.zero_add] at h; exact h)
            have B1 := kd (show ([] : List Pm).length + (S.take k).length ≤ 16000000 by rw [LK]; show 0 + k ≤ _; omega)
            have B2 := kd (show (([] : List Pm) ++ S.take k).length + 1 ≤ 16777216 by rw [List.length_append, LK]; show 0 + k + 1 ≤ _; omega)
            have B3 := kd (show ((([] : List Pm) ++ S.take k) ++ [(⟨pn, pv, ph⟩ : Pm)]).length + (S.drop k).length ≤ 16000000 by rw [List.length_append, List.length_append, LK, LD]; show 0 + k + 1 + (i - k) ≤ _; omega)
            go_upto_region 10 with (with_reducible refine wpList_appPm rfl (.tmp 33) (.tmp 36) rfl rfl V0.out (S.take k) (some ⟨x2, 0, none⟩) k cO LK rfl RT.out B1.out ?_; intro v6 w6 V6)
            have G4 := kd (G3.out w6 V6.out.bw)
            go_upto_region 11 with (first
              | (with_reducible refine wpList_load_mid rfl 56 (.tmp 41) rfl x1 (o1 + i * 3) rfl [.string (strOfNums pn), .string (strOfNums pv), .bool ph] _ G4.out Tryz.underlying56 rfl (sizePm _ _ _) ?_)
              | (with_reducible refine wpList_pushF rfl (.tmp 38) (.tmp 43) rfl rfl V6.out ⟨pn, pv, ph⟩ rfl B2.out ?_; intro v7 w7 V7))
            have RD2 := kd (RD.out w7 V7.out.bw)
            have kcn : k ≤ cO := by omega
            clear kc
            rcases Nat.eq_or_lt_of_le kcn with e0 | kc
            · have RD3 := kd (show Rds w7 w7.heap.size (some ⟨x2, 0, none⟩) (pms (S.drop k)) from fun h => by
                rw [pms_len, List.length_drop, SL.out] at h; omega)
              have LD0 : (S.drop k).length = 0 := by rw [LD]; omega
              subst e0
              clear RD2
              go_wp2_with (with_reducible refine wpList_appPm rfl (.tmp 45) (.tmp 48) rfl rfl V7.out (S.drop k) (some ⟨x2, 0, none⟩) 0 0 LD0 rfl RD3.out B3.out ?_; intro v8 w8 V8)
              have V9 := kd (V8.out.base (bthen BWr.out B5.out))
              rw [← EI.out] at V9
              go_roundw
              case rel => exact ⟨i + 1, v8, by omega, rfl, by go_num, kd (by have h := V9.out; rw [sort_len, List.length_take, HN.out, Nat.min_eq_left (by omega)] at h; exact h)⟩
              case measure => simp [intOf]; omega
            · have kne : k ≠ cO := by omega
              go_wp2_with (with_reducible refine wpList_appPm rfl (.tmp 45) (.tmp 48) rfl rfl V7.out (S.drop k) (some ⟨x2, k * 3, none⟩) (i - k) (cO - k) LD rfl RD2.out B3.out ?_; intro v8 w8 V8)
              have V9 := kd (V8.out.base (bthen BWr.out B5.out))
              rw [← EI.out] at V9
              go_roundw
              case rel => exact ⟨i + 1, v8, by omega, rfl, by go_num, kd (by have h := V9.out; rw [sort_len, List.length_take, HN.out, Nat.min_eq_left (by omega)] at h; exact h)⟩
              case measure => simp [intOf]; omega
    · obtain rfl : i = n := by omega
      have hd2 : decide ((i : Int) < (i : Int)) = false := by simp
      have TK : l.take i = l := List.take_of_length_le (by rw [HN.out]; exact Nat.le_refl _)
      rw [TK] at HV
      clear TK
      go_wp2_with fail
      go_ret
      exact ⟨_, rfl, HV.out⟩
end Go.Proofs.YthfonniieaiocaaGreatDoor
namespace Go.Proofs.YthfonniieaiocaaGreatDoor
open Go.RowKit

def ctQ (xs : List Int) (a e : Nat) (k : Int) (q : Nat × Int) : List Int × (Nat × Int) := match wrongL (xs.take e) k a with
  | none => (contL (subL xs a e), q)
  | some p => ([], failQ q p 5)
theorem rcontQ_any (w : World) (b i te : Nat) (s : ByteArray) (q : Nat × Int) (k : Int) (h : RdR w b s i q) (hi : i ≤ te) (hto : te ≤ s.size) (hs : s.size ≤ 4000000) :
    Calls Tryz.prog 139 #[.pointer (some ⟨b, 0, none⟩), .int .i64 (te : Nat), .int .i64 k] w fun e w' => ∃ j, e = .returned (.string (strOfNums (ctQ (byteL s) i te k q).1)) ∧ RdX w b s j (ctQ (byteL s) i te k q).2 w' := by
  refine (rcont_any w b i te s q k h hi hto hs).mono fun e w' hc => ?_
  unfold CtP at hc
  unfold ctQ
  cases hW : wrongL ((byteL s).take te) k i with
  | none => rw [hW] at hc; exact ⟨te, hc.1, hc.2⟩
  | some p => rw [hW] at hc; exact ⟨i, hc.1, hc.2⟩
def prmR (xs : List Int) (a b e : Nat) (k : Int) (q : Nat × Int) : Pm × (Nat × Int) :=
  let c := ctQ xs a b k q
  let q2 := if c.1 = [] then failQ c.2 a 5 else c.2
  if b < e then
    let d := ctQ xs (b + 1) e k q2
    (⟨lowS c.1, d.1, true⟩, if k = 1 ∧ d.1 = [] then failQ d.2 (b + 1) 5 else d.2)
  else (⟨lowS c.1, [], false⟩, if k = 2 then failQ q2 e 5 else q2)
def prmQ (xs : List Int) (a e : Nat) (k : Int) (q : Nat × Int) : Pm × (Nat × Int) := prmR xs a (eqAt xs a e) e k q
theorem prmR_a {xs : List Int} {a b e : Nat} {k : Int} {q q1 q2 q4 : Nat × Int} {T1 T2 : List Int} (hb : b < e) (h1 : ctQ xs a b k q = (T1, q1)) (h3 : (if T1 = [] then failQ q1 a 5 else q1) = q2) (h2 : ctQ xs (b + 1) e k q2 = (T2, q4)) :
    prmR xs a b e k q = (⟨lowS T1, T2, true⟩, if k = 1 ∧ T2 = [] then failQ q4 (b + 1) 5 else q4) := by
  unfold prmR
  simp only [h1, h3, h2, if_pos hb]
theorem prmR_b {xs : List Int} {a e : Nat} {k : Int} {q q1 q2 : Nat × Int} {T1 : List Int} (h1 : ctQ xs a e k q = (T1, q1)) (h3 : (if T1 = [] then failQ q1 a 5 else q1) = q2) :
    prmR xs a e e k q = (⟨lowS T1, [], false⟩, if k = 2 then failQ q2 e 5 else q2) := by
  unfold prmR
  simp only [h1, h3, if_neg (Nat.lt_irrefl e)]
structure PX (w : World) (b : Nat) (s : ByteArray) (i : Nat) (q : Nat × Int) (L : List Blk) (w' : World) : Prop where
  r : RdR w' b s i q
  g : w.grownBy w' (some b)
  k : ∀ r ∈ L, Row w' r.1 r.2.1 r.2.2
  n : ∀ r ∈ L, w.heap.size ≤ r.1
  lt : b < w.heap.size
section
variable {w w1 w2 : World} {b i j : Nat} {s : ByteArray} {q q' : Nat × Int} {L : List Blk}
theorem PX.start (h : RdR w b s i q) : PX w b s i q [] w := ⟨h, rgr_refl _ _, (fun r hr => by cases hr), (fun r hr => by cases hr), h.lt⟩
theorem PX.end (h : PX w b s i q L w1) : RdX w b s i q w1 := ⟨h.r, h.g⟩
theorem PX.call (h : PX w b s i q L w1) (hb : Below w1.heap.size w1 w2) : PX w b s i q L w2 := ⟨h.r.below hb, rgr_trans h.g (rgr_below hb), fun r hr => (h.k r hr).below hb, h.n, h.lt⟩
theorem PX.then (h : PX w b s i q L w1) (h2 : RdX w1 b s j q' w2) : PX w b s j q' L w2 := ⟨h2.r, rgr_trans h.g h2.g, fun r hr => (h.k r hr).heap (h2.g.block r.1 (h.k r hr).lt (fun e => by have := h.n r hr; have := h.lt; injection e with e; omega)), h.n, h.lt⟩
theorem PX.at (h : PX w b s i q L w1) (j : Nat) : PX w b s j q L (w1.setCell ⟨b, 1, none⟩ (.int .i64 (j : Nat))) := ⟨h.r.set 1 _, rgr_trans h.g (rgr_set _ _ _ _), fun r hr => (h.k r hr).setOther (fun e => by have := h.n r hr; have := h.lt; omega) _, h.n, h.lt⟩
theorem PX.new (h : PX w b s i q L w1) (T : TypeId) (us : List Value) : PX w b s i q ((w1.heap.size, T, us) :: L) (w1.alloc (.cells us.toArray T)) :=
  ⟨h.r.alloc _, rgr_trans h.g (rgr_below ((Below.refl _ _).alloc (Nat.le_refl _) _)), fun r hr => by
    rcases List.mem_cons.1 hr with rfl | hr
    · exact Row.new w1 _ us
    · exact (h.k r hr).alloc _, fun r hr => by
    rcases List.mem_cons.1 hr with rfl | hr
    · exact h.g.size
    · exact h.n r hr, h.lt⟩
end
section
variable {w w1 w2 : World} {b i j p : Nat} {s : ByteArray} {q q' : Nat × Int} {L : List Blk} {T : TypeId} {us vs : List Value} {r : Option Nat}
theorem rgr_own (h : w.grownBy w1 r) (h2 : w1.grownBy w2 (some p)) (hp : w.heap.size ≤ p) : w.grownBy w2 r := ⟨h2.os.trans h.os, h2.tape.trans h.tape, h2.output.trans h.output, Nat.le_trans h.size h2.size, fun k hk hn => (h2.block k (Nat.lt_of_lt_of_le hk h.size) (fun e => by injection e with e; omega)).trans (h.block k hk hn)⟩
theorem PX.own (h : PX w b s i q ((p, T, us) :: L) w1) (hr : Row w2 p T vs) (h2 : w1.grownBy w2 (some p)) (hn : ∀ r ∈ L, r.1 ≠ p) : PX w b s i q ((p, T, vs) :: L) w2 := by
  have hp : w.heap.size ≤ p := h.n _ (List.mem_cons_self ..)
  have hlt := h.lt
  refine ⟨h.r.heap (h2.block b h.r.lt (fun e => by injection e with e; omega)), rgr_own h.g h2 hp, fun r hr' => ?_, fun r hr' => ?_, h.lt⟩
  · rcases List.mem_cons.1 hr' with rfl | hr'
    · exact hr
    · have hk := h.k r (List.mem_cons_of_mem _ hr')
      exact hk.heap (h2.block r.1 hk.lt (fun e => by injection e with e; exact hn r hr' e))
  · rcases List.mem_cons.1 hr' with rfl | hr'
    · exact hp
    · exact h.n r (List.mem_cons_of_mem _ hr')
theorem PX.head (h : PX w b s i q ((p, T, us) :: L) w1) : Row w1 p T us := h.k _ (List.mem_cons_self ..)
theorem PX.set (h : PX w b s i q ((p, T, us) :: L) w1) (hn : ∀ r ∈ L, r.1 ≠ p) (n : Nat) (u : Value) : PX w b s i q ((p, T, us.set n u) :: L) (w1.setCell ⟨p, n, none⟩ u) :=
  h.own (h.head.set n u) (rgr_set _ _ _ _) hn
theorem PX.sub {L' : List Blk} (h : PX w b s i q L w1) (hL : ∀ r ∈ L', r ∈ L) : PX w b s i q L' w1 := ⟨h.r, h.g, fun r hr => h.k r (hL r hr), fun r hr => h.n r (hL r hr), h.lt⟩
end
theorem PX.add {w w1 w2 : World} {b i : Nat} {s : ByteArray} {q : Nat × Int} {L : List Blk} {T : TypeId} {us : List Value} (h : PX w b s i q L w1) (hb : Below w1.heap.size w1 w2) (hr : Row w2 w1.heap.size T us) : PX w b s i q ((w1.heap.size, T, us) :: L) w2 := by
  have h2 := h.call hb
  refine ⟨h2.r, h2.g, fun r hr' => ?_, fun r hr' => ?_, h.lt⟩
  · rcases List.mem_cons.1 hr' with rfl | hr'
    · exact hr
    · exact h2.k r hr'
  · rcases List.mem_cons.1 hr' with rfl | hr'
    · exact h.g.size
    · exact h2.n r hr'
theorem PX.atz {w w1 : World} {b i : Nat} {s : ByteArray} {q : Nat × Int} {L : List Blk} (h : PX w b s i q L w1) (j : Nat) {z : Int} (hz : z = (j : Nat)) : PX w b s j q L (w1.setCell ⟨b, 1, none⟩ (.int .i64 z)) := by rw [hz]; exact h.at j
theorem ctQ_by {xs : List Int} (hx : By xs) (a e : Nat) (k : Int) (q : Nat × Int) : By (ctQ xs a e k q).1 ∧ (ctQ xs a e k q).1.length ≤ xs.length := by
  unfold ctQ
  have hs : By (subL xs a e) := fun x h => hx x (List.mem_of_mem_drop (List.mem_of_mem_take h))
  split
  · obtain ⟨h1, h2⟩ := contL_by hs
    refine ⟨h1, Nat.le_trans h2 ?_⟩
    unfold subL
    rw [List.length_take, List.length_drop]; omega
  · exact ⟨(fun x h => by cases h), Nat.zero_le _⟩
theorem num_nil {T : List Int} : (strOfNums T).toList = [] ↔ T = [] := by
  rw [toList_nil]
  constructor
  · intro h
    have := num_size T
    rw [h] at this
    exact List.eq_nil_of_length_eq_zero this.symm
  · rintro rfl; rfl
theorem eqAt_end (xs : List Int) (e : Nat) : eqAt xs e e = e := by unfold eqAt subL; simp
theorem subL_cons {xs : List Int} {a e : Nat} (h : a < e) (he : e ≤ xs.length) : subL xs a e = xs.getD a 0 :: subL xs (a + 1) e := by
  have ha : a < xs.length := by omega
  unfold subL
  rw [List.drop_eq_getElem_cons ha, show e - a = (e - (a + 1)) + 1 by omega, List.take_succ_cons, List.getD_eq_getElem?_getD, List.getElem?_eq_getElem ha]
  rfl
theorem eqAt_yes {xs : List Int} {a e : Nat} (h : a < e) (he : e ≤ xs.length) (hx : xs.getD a 0 ≠ 61) : eqAt xs a e = eqAt xs (a + 1) e := by
  unfold eqAt
  rw [subL_cons h he, List.takeWhile_cons, if_pos (by simpa using hx), List.length_cons]
  omega
theorem eqAt_no {xs : List Int} {a e : Nat} (h : a < e) (he : e ≤ xs.length) (hx : xs.getD a 0 = 61) : eqAt xs a e = a := by
  unfold eqAt
  rw [subL_cons h he, List.takeWhile_cons, if_neg (by simpa using hx)]
  rfl
end Go.Proofs.YthfonniieaiocaaGreatDoor
namespace Go.Proofs.YthfonniieaiocaaGreatDoor
open Go.RowKit

set_option maxHeartbeats 4000000 in
theorem rparam_any (w : World) (b i te : Nat) (s : ByteArray) (q : Nat × Int) (k : Int) (h : RdR w b s i q) (hi : i ≤ te) (hto : te ≤ s.size) (hs : s.size ≤ 4000000) :
    Calls Tryz.prog 143 #[.pointer (some ⟨b, 0, none⟩), .int .i64 (te : Nat), .int .i64 k] w fun e w' => e = .returned (.agg #[.string (strOfNums (prmQ (byteL s) i te k q).1.n), .string (strOfNums (prmQ (byteL s) i te k q).1.v), .bool (prmQ (byteL s) i te k q).1.h]) ∧ RdX w b s te (prmQ (byteL s) i te k q).2 w' := by
  have H0 := kd (PX.start h)
  have HL := kd (byteL_len s)
  have HB := kd (byteL_by s)
  have H1 := kd (H0.out.new 56 [.string ⟨#[]⟩, .string ⟨#[]⟩, .bool false])
  have k1 := H1.out.r.cell 1
  have k0 := H1.out.r.cell 0
  unfold rdC at k0 k1
  simp only [List.getElem?_cons_succ, List.getElem?_cons_zero] at k0 k1
  have EL := kd (eqAt_le (xs := byteL s) (a := i) (e := te) hi (by rw [HL.out]; exact hto))
  have EN := kd (fun (j : Nat) (h : j < te) => eqAt_no (xs := byteL s) h (by rw [HL.out]; exact hto))
  have EY := kd (fun (j : Nat) (h : j < te) => eqAt_yes (xs := byteL s) h (by rw [HL.out]; exact hto))
  have EE := kd (eqAt_end (byteL s) te)
  have CT := kd (fun wr (j : Nat) (e' : Nat) (q' : Nat × Int) (hr : RdR wr b s j q') (hj : j ≤ e') (he : e' ≤ te) => rcontQ_any wr b j e' s q' k hr hj (by omega) hs)
  obtain ⟨R, hR⟩ : ∃ R, prmQ (byteL s) i te k q = R := ⟨_, rfl⟩
  rw [hR]
  unfold prmQ at hR
  have PR := kd hR
  clear hR h H0
  go_enter Tryz.func143, Tryz.ntmps143
  go_wp2_with fail
  have RB := kd (show w.heap.size ≤ w.heap.size from Nat.le_refl _)
  obtain ⟨rb, hrb⟩ : ∃ rb, w.heap.size = rb := ⟨_, rfl⟩
  generalize (w.alloc (Obj.cells #[Value.string { data := #[] }, Value.string { data := #[] }, Value.bool false] 56)) = w1 at *
  rw [hrb] at H1 ⊢
  have HRB := kd hrb
  clear hrb RB
  go_loopw [7] (fun v wr => ∃ j : Nat, i ≤ j ∧ j ≤ te ∧ v = .int .i64 j ∧ w1 = wr ∧ Hid (eqAt (byteL s) j te = eqAt (byteL s) i te)) (fun v _ => te - (intOf v).toNat)
  case atStart => exact ⟨i, Nat.le_refl _, hi, rfl, rfl, kd rfl⟩
  case round =>
    obtain ⟨j, hij, hj, rfl, rfl, EJ⟩ := hrel
    by_cases hlt : j < te
    · have hd : decide ((j : Int) < (te : Int)) = true := by simp; omega
      have d1 := fun w => idx_str s (i := j) (by omega) (z := (j : Int)) rfl w
      have hjs : j < s.size := by omega
      by_cases hx : (byteL s).getD j 0 = 61
      · have E := kd (EJ.out.symm.trans (EN.out j hlt hx))
        rw [hx] at d1
        rw [E.out] at PR
        obtain ⟨⟨T1, q1⟩, hc1⟩ : ∃ c, ctQ (byteL s) i j k q = c := ⟨_, rfl⟩
        have B1 := kd (ctQ_by HB.out i j k q)
        have C1 := kd (CT.out w1 i j q H1.out.r hij (by omega))
        rw [hc1] at B1 C1
        replace hc1 := kd hc1
        clear EN EY EE EL E EJ
        obtain ⟨q2, hq2⟩ : ∃ q2, (if T1 = [] then failQ q1 i 5 else q1) = q2 := ⟨_, rfl⟩
        have Q2 := kd hq2
        clear hq2
        go_upto_if 38 with (go_at_call 139; refine C1.out.mono ?_; rintro _ w2 ⟨j2, rfl, h2⟩)
        have H2 := kd (H1.out.then h2)
        clear h2 C1 H1 k0 k1
        go_cut [38] (fun _ wx => ∃ j3, Hid (PX w b s j3 q2 [(rb, 56, [Value.string ⟨#[]⟩, Value.string ⟨#[]⟩, Value.bool false])] wx))
        case first =>
          by_cases t1 : T1 = []
          · have t2 : (strOfNums T1).toList = [] := num_nil.2 t1
            have t3 : (strOfNums T1).toList.isEmpty = true := by rw [t2]; rfl
            rw [t3]
            have Q3 := kd (Q2.out.symm.trans (if_pos t1))
            replace t1 := kd t1
            go_wp2_with (go_at_call 140; refine (rfail_any _ b j2 i s q1 5 H2.out.r).mono ?_; rintro _ w3 ⟨rfl, h3⟩; have H3 := kd (H2.out.then h3))
            go_meet
            exact ⟨_, kd (Q3.out ▸ H3.out)⟩
          · have t2 : ¬ (strOfNums T1).toList = [] := fun h => t1 (num_nil.1 h)
            have t3 : (strOfNums T1).toList.isEmpty = false := by
              cases h : (strOfNums T1).toList with
              | nil => exact absurd h t2
              | cons a r => rfl
            rw [t3]
            have Q3 := kd (Q2.out.symm.trans (if_neg t1))
            replace t1 := kd t1
            go_wp2_with fail
            go_meet
            exact ⟨_, kd (Q3.out ▸ H2.out)⟩
        case rest =>
        obtain ⟨j3, H3⟩ := hcut
        clear H2
        have LW := kd (reflower_any (strOfNums T1) wc (by rw [num_size]; have := B1.out.2; rw [HL.out] at this; omega))
        rw [byteL_str B1.out.1] at LW
        go_upto_region 9 with (first
          | (go_at_call 65; refine LW.out.mono ?_; rintro _ w4 ⟨rfl, hb4⟩)
          | (with_reducible refine wpList_storeN rfl 56 (.tmp 10) (.tmp 44) rfl [.string ⟨#[]⟩, .string ⟨#[]⟩, .bool false] [.string (strOfNums (lowS T1)), .string ⟨#[]⟩, .bool false] rfl rfl rfl (sizePm _ _ _) (pm_one _ _ _) ?_; intro w5 R5 B5))
        have H5 := kd ((H3.out.call hb4).add B5.out R5.out)
        have NR := kd (show ∀ r ∈ [(rb, 56, [Value.string ⟨#[]⟩, Value.string ⟨#[]⟩, Value.bool false])], r.1 ≠ w4.heap.size from fun r hr e => by
          have h1 := ((H3.out.call hb4).k r hr).lt
          omega)
        generalize w4.heap.size = pb at *
        clear hb4 B5 R5 H3 LW
        have nte : ((j : Int) == (te : Int)) = false := by simp; omega
        have k5 := H5.out.r.cell 1
        try simp only [rdC, List.getElem?_cons_succ, List.getElem?_cons_zero, List.set_cons_zero, List.set_cons_succ] at k5
        have f5 := H5.out.r.frozen 1
        have H6 := kd (H5.out.atz (j + 1) (z := (j : Int) + 1) rfl)
        have k6 := H6.out.head.cell 2
        try simp only [rdC, List.getElem?_cons_succ, List.getElem?_cons_zero, List.set_cons_zero, List.set_cons_succ] at k6
        have f6 := H6.out.head.frozen 2
        have H7 := kd (H6.out.set NR.out 2 (.bool true))
        obtain ⟨⟨T2, q4⟩, hc2⟩ : ∃ c, ctQ (byteL s) (j + 1) te k q2 = c := ⟨_, rfl⟩
        have B2 := kd (ctQ_by HB.out (j + 1) te k q2)
        have C2 := kd (CT.out _ (j + 1) te q2 H7.out.r (by omega) (Nat.le_refl _))
        rw [hc2] at B2 C2
        have PA := kd (PR.out.symm.trans (prmR_a hlt hc1.out Q2.out hc2))
        clear hc2
        by_cases hk2 : k = 2
        · have k2 : (k == 2) = true := by simpa using hk2
          have k2' : (k == 1) = false := by rw [hk2]; rfl
          have PB := kd (show R = (⟨lowS T1, T2, true⟩, q4) from PA.out.trans (by rw [if_neg (fun h => by omega)]))
          replace hk2 := kd hk2
          go_wp2_with (first
            | (go_at_call 139; refine C2.out.mono ?_; rintro _ w8 ⟨j8, rfl, h8⟩; have H8 := kd (H7.out.then h8); have k8 := H8.out.head.cell 1; (try simp only [rdC, List.getElem?_cons_succ, List.getElem?_cons_zero, List.set_cons_zero, List.set_cons_succ] at k8); have f8 := H8.out.head.frozen 1; have H9 := kd (H8.out.set NR.out 1 (.string (strOfNums T2))); have k9 := H9.out.head.cell 1; (try simp only [rdC, List.getElem?_cons_succ, List.getElem?_cons_zero, List.set_cons_zero, List.set_cons_succ] at k9); have k11 := H9.out.r.cell 1; (try simp only [rdC, List.getElem?_cons_succ, List.getElem?_cons_zero, List.set_cons_zero, List.set_cons_succ] at k11); have f11 := H9.out.r.frozen 1; have HE := kd (H9.out.atz te rfl); have HR := kd (show Row _ pb 56 [.string (strOfNums (lowS T1)), .string (strOfNums T2), .bool true] from HE.out.head); have HX := kd (HE.out.sub (L' := [(rb, 56, [Value.string ⟨#[]⟩, Value.string ⟨#[]⟩, Value.bool false])]) (fun r hr => List.mem_cons_of_mem _ hr)); have HX1 := kd HX.out.head)
            | (with_reducible refine wpList_loadR rfl 56 (.tmp 10) rfl HR.out rfl Tryz.underlying56 rfl (sizePm _ _ _) ?_)
            | (with_reducible refine wpList_storeG rfl 56 (.tmp 6) (.tmp 84) rfl HX1.out [.string (strOfNums (lowS T1)), .string (strOfNums T2), .bool true] rfl rfl (lenPm _ _ _ _ _ _) (sizePm _ _ _) (pm_one _ _ _) ?_; intro w9 RR G9))
          have HF := kd ((HX.out.own RR.out G9.out (fun r hr => by cases hr)).end)
          exact bodyPost_ret (results_cell rfl _ _ _ rb [.string (strOfNums (lowS T1)), .string (strOfNums T2), .bool true] _ rfl RR.out.range Tryz.underlying56 rfl (sizePm _ _ _)) rfl (by rw [PB.out]; exact ⟨rfl, HF.out⟩)
        · by_cases hk1 : k = 1
          · have k2 : (k == 2) = false := by simpa using hk2
            have k2' : (k == 1) = true := by simpa using hk1
            by_cases t4 : T2 = []
            · have t5 : (strOfNums T2).toList = [] := num_nil.2 t4
              have t6 : ((strOfNums T2).toList == []) = true := by rw [t5]; rfl
              have PB := kd (show R = (⟨lowS T1, T2, true⟩, failQ q4 (j + 1) 5) from PA.out.trans (by rw [if_pos ⟨hk1, t4⟩]))
              replace hk2 := kd hk2
              replace hk1 := kd hk1
              replace t4 := kd t4
              go_wp2_with (first
                | (go_at_call 139; refine C2.out.mono ?_; rintro _ w8 ⟨j8, rfl, h8⟩; have H8 := kd (H7.out.then h8); have k8 := H8.out.head.cell 1; (try simp only [rdC, List.getElem?_cons_succ, List.getElem?_cons_zero, List.set_cons_zero, List.set_cons_succ] at k8); have f8 := H8.out.head.frozen 1; have H9 := kd (H8.out.set NR.out 1 (.string (strOfNums T2))); have k9 := H9.out.head.cell 1; (try simp only [rdC, List.getElem?_cons_succ, List.getElem?_cons_zero, List.set_cons_zero, List.set_cons_succ] at k9))
                | (go_at_call 140; refine (rfail_any _ b j8 (j + 1) s q4 5 H9.out.r).mono ?_; rintro _ w10 ⟨rfl, h10⟩; have H10 := kd (H9.out.then h10); have k11 := H10.out.r.cell 1; (try simp only [rdC, List.getElem?_cons_succ, List.getElem?_cons_zero, List.set_cons_zero, List.set_cons_succ] at k11); have f11 := H10.out.r.frozen 1; have HE := kd (H10.out.atz te rfl); have HR := kd (show Row _ pb 56 [.string (strOfNums (lowS T1)), .string (strOfNums T2), .bool true] from HE.out.head); have HX := kd (HE.out.sub (L' := [(rb, 56, [Value.string ⟨#[]⟩, Value.string ⟨#[]⟩, Value.bool false])]) (fun r hr => List.mem_cons_of_mem _ hr)); have HX1 := kd HX.out.head)
                | (with_reducible refine wpList_loadR rfl 56 (.tmp 10) rfl HR.out rfl Tryz.underlying56 rfl (sizePm _ _ _) ?_)
                | (with_reducible refine wpList_storeG rfl 56 (.tmp 6) (.tmp 84) rfl HX1.out [.string (strOfNums (lowS T1)), .string (strOfNums T2), .bool true] rfl rfl (lenPm _ _ _ _ _ _) (sizePm _ _ _) (pm_one _ _ _) ?_; intro w9 RR G9))
              have HF := kd ((HX.out.own RR.out G9.out (fun r hr => by cases hr)).end)
              exact bodyPost_ret (results_cell rfl _ _ _ rb [.string (strOfNums (lowS T1)), .string (strOfNums T2), .bool true] _ rfl RR.out.range Tryz.underlying56 rfl (sizePm _ _ _)) rfl (by rw [PB.out]; exact ⟨rfl, HF.out⟩)
            · have t5 : ¬ (strOfNums T2).toList = [] := fun h => t4 (num_nil.1 h)
              have t6 : ((strOfNums T2).toList == []) = false := by simpa using t5
              have PB := kd (show R = (⟨lowS T1, T2, true⟩, q4) from PA.out.trans (by rw [if_neg (fun h => t4 h.2)]))
              replace hk2 := kd hk2
              replace hk1 := kd hk1
              replace t4 := kd t4
              go_wp2_with (first
                | (go_at_call 139; refine C2.out.mono ?_; rintro _ w8 ⟨j8, rfl, h8⟩; have H8 := kd (H7.out.then h8); have k8 := H8.out.head.cell 1; (try simp only [rdC, List.getElem?_cons_succ, List.getElem?_cons_zero, List.set_cons_zero, List.set_cons_succ] at k8); have f8 := H8.out.head.frozen 1; have H9 := kd (H8.out.set NR.out 1 (.string (strOfNums T2))); have k9 := H9.out.head.cell 1; (try simp only [rdC, List.getElem?_cons_succ, List.getElem?_cons_zero, List.set_cons_zero, List.set_cons_succ] at k9); have k11 := H9.out.r.cell 1; (try simp only [rdC, List.getElem?_cons_succ, List.getElem?_cons_zero, List.set_cons_zero, List.set_cons_succ] at k11); have f11 := H9.out.r.frozen 1; have HE := kd (H9.out.atz te rfl); have HR := kd (show Row _ pb 56 [.string (strOfNums (lowS T1)), .string (strOfNums T2), .bool true] from HE.out.head); have HX := kd (HE.out.sub (L' := [(rb, 56, [Value.string ⟨#[]⟩, Value.string ⟨#[]⟩, Value.bool false])]) (fun r hr => List.mem_cons_of_mem _ hr)); have HX1 := kd HX.out.head)
                | (with_reducible refine wpList_loadR rfl 56 (.tmp 10) rfl HR.out rfl Tryz.underlying56 rfl (sizePm _ _ _) ?_)
                | (with_reducible refine wpList_storeG rfl 56 (.tmp 6) (.tmp 84) rfl HX1.out [.string (strOfNums (lowS T1)), .string (strOfNums T2), .bool true] rfl rfl (lenPm _ _ _ _ _ _) (sizePm _ _ _) (pm_one _ _ _) ?_; intro w9 RR G9))
              have HF := kd ((HX.out.own RR.out G9.out (fun r hr => by cases hr)).end)
              exact bodyPost_ret (results_cell rfl _ _ _ rb [.string (strOfNums (lowS T1)), .string (strOfNums T2), .bool true] _ rfl RR.out.range Tryz.underlying56 rfl (sizePm _ _ _)) rfl (by rw [PB.out]; exact ⟨rfl, HF.out⟩)
          · have k2 : (k == 2) = false := by simpa using hk2
            have k2' : (k == 1) = false := by simpa using hk1
            have PB := kd (show R = (⟨lowS T1, T2, true⟩, q4) from PA.out.trans (by rw [if_neg (fun h => hk1 h.1)]))
            replace hk2 := kd hk2
            replace hk1 := kd hk1
            go_wp2_with (first
              | (go_at_call 139; refine C2.out.mono ?_; rintro _ w8 ⟨j8, rfl, h8⟩; have H8 := kd (H7.out.then h8); have k8 := H8.out.head.cell 1; (try simp only [rdC, List.getElem?_cons_succ, List.getElem?_cons_zero, List.set_cons_zero, List.set_cons_succ] at k8); have f8 := H8.out.head.frozen 1; have H9 := kd (H8.out.set NR.out 1 (.string (strOfNums T2))); have k9 := H9.out.head.cell 1; (try simp only [rdC, List.getElem?_cons_succ, List.getElem?_cons_zero, List.set_cons_zero, List.set_cons_succ] at k9); have k11 := H9.out.r.cell 1; (try simp only [rdC, List.getElem?_cons_succ, List.getElem?_cons_zero, List.set_cons_zero, List.set_cons_succ] at k11); have f11 := H9.out.r.frozen 1; have HE := kd (H9.out.atz te rfl); have HR := kd (show Row _ pb 56 [.string (strOfNums (lowS T1)), .string (strOfNums T2), .bool true] from HE.out.head); have HX := kd (HE.out.sub (L' := [(rb, 56, [Value.string ⟨#[]⟩, Value.string ⟨#[]⟩, Value.bool false])]) (fun r hr => List.mem_cons_of_mem _ hr)); have HX1 := kd HX.out.head)
              | (with_reducible refine wpList_loadR rfl 56 (.tmp 10) rfl HR.out rfl Tryz.underlying56 rfl (sizePm _ _ _) ?_)
              | (with_reducible refine wpList_storeG rfl 56 (.tmp 6) (.tmp 84) rfl HX1.out [.string (strOfNums (lowS T1)), .string (strOfNums T2), .bool true] rfl rfl (lenPm _ _ _ _ _ _) (sizePm _ _ _) (pm_one _ _ _) ?_; intro w9 RR G9))
            have HF := kd ((HX.out.own RR.out G9.out (fun r hr => by cases hr)).end)
            exact bodyPost_ret (results_cell rfl _ _ _ rb [.string (strOfNums (lowS T1)), .string (strOfNums T2), .bool true] _ rfl RR.out.range Tryz.underlying56 rfl (sizePm _ _ _)) rfl (by rw [PB.out]; exact ⟨rfl, HF.out⟩)
      · have E := kd ((EY.out j hlt hx).symm.trans EJ.out)
        have x0 : ((byteL s).getD j 0 != 61) = true := by simpa using hx
        generalize (byteL s).getD j 0 = x at *
        go_wp2_with fail
        go_roundw
        case rel => exact ⟨j + 1, by omega, by omega, by go_num, by first | rfl | trivial, E⟩
        case measure => simp [intOf]; omega
    · obtain rfl : j = te := by omega
      have E := kd (EJ.out.symm.trans EE.out)
      have hd0 : decide ((j : Int) < (j : Int)) = false := by simp
      rw [E.out] at PR
      obtain ⟨⟨T1, q1⟩, hc1⟩ : ∃ c, ctQ (byteL s) i j k q = c := ⟨_, rfl⟩
      have B1 := kd (ctQ_by HB.out i j k q)
      have C1 := kd (CT.out w1 i j q H1.out.r hij (by omega))
      rw [hc1] at B1 C1
      replace hc1 := kd hc1
      clear EN EY EE EL E EJ
      obtain ⟨q2, hq2⟩ : ∃ q2, (if T1 = [] then failQ q1 i 5 else q1) = q2 := ⟨_, rfl⟩
      have Q2 := kd hq2
      clear hq2
      go_upto_if 38 with (go_at_call 139; refine C1.out.mono ?_; rintro _ w2 ⟨j2, rfl, h2⟩)
      have H2 := kd (H1.out.then h2)
      clear h2 C1 H1 k0 k1
      go_cut [38] (fun _ wx => ∃ j3, Hid (PX w b s j3 q2 [(rb, 56, [Value.string ⟨#[]⟩, Value.string ⟨#[]⟩, Value.bool false])] wx))
      case first =>
        by_cases t1 : T1 = []
        · have t2 : (strOfNums T1).toList = [] := num_nil.2 t1
          have t3 : (strOfNums T1).toList.isEmpty = true := by rw [t2]; rfl
          rw [t3]
          have Q3 := kd (Q2.out.symm.trans (if_pos t1))
          replace t1 := kd t1
          go_wp2_with (go_at_call 140; refine (rfail_any _ b j2 i s q1 5 H2.out.r).mono ?_; rintro _ w3 ⟨rfl, h3⟩; have H3 := kd (H2.out.then h3))
          go_meet
          exact ⟨_, kd (Q3.out ▸ H3.out)⟩
        · have t2 : ¬ (strOfNums T1).toList = [] := fun h => t1 (num_nil.1 h)
          have t3 : (strOfNums T1).toList.isEmpty = false := by
            cases h : (strOfNums T1).toList with
            | nil => exact absurd h t2
            | cons a r => rfl
          rw [t3]
          have Q3 := kd (Q2.out.symm.trans (if_neg t1))
          replace t1 := kd t1
          go_wp2_with fail
          go_meet
          exact ⟨_, kd (Q3.out ▸ H2.out)⟩
      case rest =>
      obtain ⟨j3, H3⟩ := hcut
      clear H2
      have LW := kd (reflower_any (strOfNums T1) wc (by rw [num_size]; have := B1.out.2; rw [HL.out] at this; omega))
      rw [byteL_str B1.out.1] at LW
      go_upto_region 9 with (first
        | (go_at_call 65; refine LW.out.mono ?_; rintro _ w4 ⟨rfl, hb4⟩)
        | (with_reducible refine wpList_storeN rfl 56 (.tmp 10) (.tmp 44) rfl [.string ⟨#[]⟩, .string ⟨#[]⟩, .bool false] [.string (strOfNums (lowS T1)), .string ⟨#[]⟩, .bool false] rfl rfl rfl (sizePm _ _ _) (pm_one _ _ _) ?_; intro w5 R5 B5))
      have H5 := kd ((H3.out.call hb4).add B5.out R5.out)
      have NR := kd (show ∀ r ∈ [(rb, 56, [Value.string ⟨#[]⟩, Value.string ⟨#[]⟩, Value.bool false])], r.1 ≠ w4.heap.size from fun r hr e => by
        have h1 := ((H3.out.call hb4).k r hr).lt
        omega)
      generalize w4.heap.size = pb at *
      clear hb4 B5 R5 H3 LW
      have te1 : ((j : Int) == (j : Int)) = true := by simp
      have te2 : decide ((j : Int) < (j : Int)) = false := by simp
      obtain ⟨j3, H5⟩ : ∃ j3, Hid (PX w b s j3 q2 _ w5) := ⟨_, H5⟩
      have PA := kd (PR.out.symm.trans (prmR_b hc1.out Q2.out))
      by_cases hk2 : k = 2
      · have k2 : (k == 2) = true := by simpa using hk2
        have PB := kd (show R = (⟨lowS T1, [], false⟩, failQ q2 j 5) from PA.out.trans (by rw [if_pos hk2]))
        replace hk2 := kd hk2
        go_wp2_with (first
          | (go_at_call 140; refine (rfail_any _ b j3 j s q2 5 H5.out.r).mono ?_; rintro _ w10 ⟨rfl, h10⟩; have H10 := kd (H5.out.then h10); have k11 := H10.out.r.cell 1; (try simp only [rdC, List.getElem?_cons_succ, List.getElem?_cons_zero, List.set_cons_zero, List.set_cons_succ] at k11); have f11 := H10.out.r.frozen 1; have HE := kd (H10.out.atz j rfl); have HR := kd (show Row _ pb 56 [.string (strOfNums (lowS T1)), .string ⟨#[]⟩, .bool false] from HE.out.head); have HX := kd (HE.out.sub (L' := [(rb, 56, [Value.string ⟨#[]⟩, Value.string ⟨#[]⟩, Value.bool false])]) (fun r hr => List.mem_cons_of_mem _ hr)); have HX1 := kd HX.out.head)
          | (with_reducible refine wpList_loadR rfl 56 (.tmp 10) rfl HR.out rfl Tryz.underlying56 rfl (sizePm _ _ _) ?_)
          | (with_reducible refine wpList_storeG rfl 56 (.tmp 6) (.tmp 84) rfl HX1.out [.string (strOfNums (lowS T1)), .string ⟨#[]⟩, .bool false] rfl rfl (lenPm _ _ _ _ _ _) (sizePm _ _ _) (pm_one _ _ _) ?_; intro w9 RR G9))
        have HF := kd ((HX.out.own RR.out G9.out (fun r hr => by cases hr)).end)
        exact bodyPost_ret (results_cell rfl _ _ _ rb [.string (strOfNums (lowS T1)), .string ⟨#[]⟩, .bool false] _ rfl RR.out.range Tryz.underlying56 rfl (sizePm _ _ _)) rfl (by rw [PB.out]; exact ⟨rfl, HF.out⟩)
      · have k2 : (k == 2) = false := by simpa using hk2
        have PB := kd (show R = (⟨lowS T1, [], false⟩, q2) from PA.out.trans (by rw [if_neg hk2]))
        replace hk2 := kd hk2
        have k11 := H5.out.r.cell 1
        (try simp only [rdC, List.getElem?_cons_succ, List.getElem?_cons_zero, List.set_cons_zero, List.set_cons_succ] at k11)
        have f11 := H5.out.r.frozen 1
        have HE := kd (H5.out.atz j rfl)
        have HR := kd (show Row _ pb 56 [.string (strOfNums (lowS T1)), .string ⟨#[]⟩, .bool false] from HE.out.head)
        have HX := kd (HE.out.sub (L' := [(rb, 56, [Value.string ⟨#[]⟩, Value.string ⟨#[]⟩, Value.bool false])]) (fun r hr => List.mem_cons_of_mem _ hr))
        have HX1 := kd HX.out.head
        go_wp2_with (first
          | (with_reducible refine wpList_loadR rfl 56 (.tmp 10) rfl HR.out rfl Tryz.underlying56 rfl (sizePm _ _ _) ?_)
          | (with_reducible refine wpList_storeG rfl 56 (.tmp 6) (.tmp 84) rfl HX1.out [.string (strOfNums (lowS T1)), .string ⟨#[]⟩, .bool false] rfl rfl (lenPm _ _ _ _ _ _) (sizePm _ _ _) (pm_one _ _ _) ?_; intro w9 RR G9))
        have HF := kd ((HX.out.own RR.out G9.out (fun r hr => by cases hr)).end)
        exact bodyPost_ret (results_cell rfl _ _ _ rb [.string (strOfNums (lowS T1)), .string ⟨#[]⟩, .bool false] _ rfl RR.out.range Tryz.underlying56 rfl (sizePm _ _ _)) rfl (by rw [PB.out]; exact ⟨rfl, HF.out⟩)
end Go.Proofs.YthfonniieaiocaaGreatDoor
