/- Contracts of address's cursor: ended, sees, blanks, token. -/
import Derived.Test.YthfonniieaiocaaGreatDoorAc
import Derived.Test.YthfonniieaiocaaGreatDoorQd
set_option linter.unusedVariables false
set_option linter.unusedSimpArgs false
namespace Go.Proofs.YthfonniieaiocaaGreatDoor
open Go.RowKit

/-- The cursor at block b stands at a; else nothing that lay there has changed. -/
structure CG (w : World) (b : Nat) (s : ByteArray) (a : Nat) (w' : World) : Prop where
  r : Row w' b 84 [.string s, .int .i64 a]
  g : w.grownBy w' (some b)
theorem grown_id (w : World) (r : Option Nat) : w.grownBy w r := ⟨rfl, rfl, rfl, Nat.le_refl _, fun _ _ _ => rfl⟩
theorem grown_of_below {w w1 : World} (r : Option Nat) (h : Below w.heap.size w w1) : w.grownBy w1 r := ⟨h.os, h.tape, h.output, h.size, fun k hk _ => h.block k hk⟩
theorem grown_trans {a b c : World} {r : Option Nat} (h : a.grownBy b r) (h2 : b.grownBy c r) : a.grownBy c r :=
  ⟨h2.os.trans h.os, h2.tape.trans h.tape, h2.output.trans h.output, Nat.le_trans h.size h2.size, fun k hk hn => (h2.block k (Nat.lt_of_lt_of_le hk h.size) hn).trans (h.block k hk hn)⟩
theorem grown_cell {w w1 : World} {b i : Nat} (u : Value) (h : w.grownBy w1 (some b)) : w.grownBy (w1.setCell ⟨b, i, none⟩ u) (some b) :=
  ⟨h.os, h.tape, h.output, by rw [World.size_setCell]; exact h.size, fun k hk hn => (Below.heap_setCell w1 ⟨b, i, none⟩ u k (fun e => hn (by rw [e]))).trans (h.block k hk hn)⟩
theorem CG.refl {w : World} {b : Nat} {s : ByteArray} {a : Nat} (r : Row w b 84 [.string s, .int .i64 a]) : CG w b s a w := ⟨r, grown_id _ _⟩
theorem CG.call {w w1 w2 : World} {b : Nat} {s : ByteArray} {a : Nat} (h : CG w b s a w1) (hb : Below w1.heap.size w1 w2) : CG w b s a w2 := ⟨h.r.below hb, grown_trans h.g (grown_of_below _ hb)⟩
theorem CG.set {w w1 : World} {b : Nat} {s : ByteArray} {a : Nat} (h : CG w b s a w1) (a' : Nat) {z : Int} (hz : z = a') : CG w b s a' (w1.setCell ⟨b, 1, none⟩ (.int .i64 z)) := by
  subst hz
  exact ⟨h.r.set 1 _, grown_cell _ h.g⟩
theorem CG.trans {w w1 w2 : World} {b : Nat} {s : ByteArray} {a a' : Nat} (h : CG w b s a w1) (h2 : CG w1 b s a' w2) : CG w b s a' w2 := ⟨h2.r, grown_trans h.g h2.g⟩
def seesB (xs : List Int) (a : Nat) (c : Int) : Bool := decide (a < xs.length) && (xs.getD a 0 == c)
theorem curended_any (w : World) (b a : Nat) (s : ByteArray) (h : Row w b 84 [.string s, .int .i64 a]) :
    Calls Tryz.prog 72 #[.pointer (some ⟨b, 0, none⟩)] w fun e w' => e = .returned (.bool (decide (s.size ≤ a))) ∧ ∃ q, w' = w.drewN q := by
  have k0 : w.cell? ⟨b, 0, none⟩ = some (.string s) := h.cell 0
  have k1 : w.cell? ⟨b, 1, none⟩ = some (.int .i64 a) := h.cell 1
  clear h
  go_enter Tryz.func72, Tryz.ntmps72
  go_wp2_with fail
  go_quiet (fail)
  go_wp2_with fail
  go_ret
  exact ⟨ret_bool (by first | rfl | simp), _, rfl⟩
set_option maxRecDepth 100000 in
theorem cursees_any (w : World) (b a : Nat) (c : Int) (s : ByteArray) (h : Row w b 84 [.string s, .int .i64 a]) :
    Calls Tryz.prog 69 #[.pointer (some ⟨b, 0, none⟩), .int .u8 c] w fun e w' => e = .returned (.bool (seesB (byteL s) a c)) ∧ ∃ q, w' = w.drewN q := by
  have k0 : w.cell? ⟨b, 0, none⟩ = some (.string s) := h.cell 0
  have k1 : w.cell? ⟨b, 1, none⟩ = some (.int .i64 a) := h.cell 1
  have EN := Lib.hid (fun n => curended_any (w.drewN n) b a s (h.drewN n))
  have HL := Lib.hid (byteL_len s)
  clear h
  by_cases hlt : a < s.size
  · have d : decide (s.size ≤ a) = false := by simp; omega
    have dx := fun w => idx_str s (i := a) hlt (z := (a : Int)) rfl w
    rw [d] at EN
    have E := Lib.hid (show seesB (byteL s) a c = ((byteL s).getD a 0 == c) by unfold seesB; rw [HL.out, decide_eq_true hlt]; rfl)
    generalize (byteL s).getD a 0 = x at *
    clear d hlt
    go_enter Tryz.func69, Tryz.ntmps69
    go_wp2_with fail
    go_quiet ((go_at_call 72; exact Calls.quiet_of (EN.out _)))
    go_wp2_with fail
    go_ret
    exact ⟨ret_bool E.out.symm, _, rfl⟩
  · have d : decide (s.size ≤ a) = true := by simp; omega
    rw [d] at EN
    have E := Lib.hid (show seesB (byteL s) a c = false by unfold seesB; rw [HL.out, decide_eq_false hlt]; rfl)
    clear d hlt
    go_enter Tryz.func69, Tryz.ntmps69
    go_wp2_with fail
    go_quiet ((go_at_call 72; exact Calls.quiet_of (EN.out _)))
    go_wp2_with fail
    go_ret
    exact ⟨ret_bool E.out.symm, _, rfl⟩
set_option maxRecDepth 100000 in
theorem curblanks_any (w : World) (b a : Nat) (s : ByteArray) (h : Row w b 84 [.string s, .int .i64 a]) (ha : a ≤ s.size) (hs : s.size ≤ 4000000) :
    Calls Tryz.prog 80 #[.pointer (some ⟨b, 0, none⟩)] w fun e w' => e = .returned (.tuple #[]) ∧ CG w b s (skipTo isBlank (byteL s) a) w' := by
  have R := Lib.hid h
  have k0 : w.cell? ⟨b, 0, none⟩ = some (.string s) := h.cell 0
  have k1 : w.cell? ⟨b, 1, none⟩ = some (.int .i64 a) := h.cell 1
  have BL := Lib.hid (fun w => blanksN s (a : Int) a w (skipTo isBlank (byteL s) a) rfl ha rfl hs)
  generalize skipTo isBlank (byteL s) a = a2 at *
  clear h ha
  go_enter Tryz.func80, Tryz.ntmps80
  go_wp2_with fail
  clear k0 k1
  have q0 := fun x : BW w => R.out.later x 0
  have q1 := fun x : BW w => R.out.later x 1
  simp only [List.getElem?_cons_succ, List.getElem?_cons_zero] at q0 q1
  refine region_bwt 13 (by kernel_rfl) (by kernel_rfl) ?_
  simp only [List.take_succ_cons, List.take_zero, List.drop_succ_cons, List.drop_zero]
  iterate 10 go_big_quiet_step (fail)
  go_big_quiet_step (exact calls_bw (BL.out _))
  iterate 2 go_big_quiet_step (fail)
  refine wpQuiet_nil ?_
  rintro _ ⟨x, rfl⟩
  have G := Lib.hid ((CG.refl R.out).call x.h)
  have k1 : x.w.cell? ⟨b, 1, none⟩ = some (.int .i64 a) := G.out.r.cell 1
  have f1 : x.w.frozen? ⟨b, 1, none⟩ = false := G.out.r.frozen 1
  clear q0 q1
  go_wp2_with fail
  go_end0
  exact ⟨rfl, G.out.set a2 rfl⟩
set_option maxRecDepth 100000 in
theorem curtoken_any (w : World) (b a : Nat) (s : ByteArray) (h : Row w b 84 [.string s, .int .i64 a]) (ha : a ≤ s.size) (hs : s.size ≤ 4000000) :
    Calls Tryz.prog 147 #[.pointer (some ⟨b, 0, none⟩)] w fun e w' => e = .returned (.string (strOfNums (subL (byteL s) a (skipTo isTok (byteL s) a)))) ∧ CG w b s (skipTo isTok (byteL s) a) w' := by
  have R := Lib.hid h
  have k0 : w.cell? ⟨b, 0, none⟩ = some (.string s) := h.cell 0
  have k1 : w.cell? ⟨b, 1, none⟩ = some (.int .i64 a) := h.cell 1
  have BL := Lib.hid (fun w => by
    have h := tokend_any s a w (by omega) (by omega)
    rw [clipN ha] at h
    exact h)
  have S := Lib.hid (show s.extract a (skipTo isTok (byteL s) a) = strOfNums (subL (byteL s) a (skipTo isTok (byteL s) a)) by rw [← str_byteL (s.extract _ _), byteL_extract]; rfl)
  have le1 : a ≤ skipTo isTok (byteL s) a := skip_ge _ _ _
  have le2 : skipTo isTok (byteL s) a ≤ s.size := by rw [← byteL_len s]; exact skip_le (by rw [byteL_len]; exact ha)
  generalize skipTo isTok (byteL s) a = a2 at *
  clear h ha
  go_enter Tryz.func147, Tryz.ntmps147
  go_wp2_with fail
  clear k0 k1
  refine (BL.out _).mono ?_
  rintro e w1 ⟨rfl, hb⟩
  have G := Lib.hid ((CG.refl R.out).call hb)
  have k1 : w1.cell? ⟨b, 1, none⟩ = some (.int .i64 a) := G.out.r.cell 1
  have f1 : w1.frozen? ⟨b, 1, none⟩ = false := G.out.r.frozen 1
  have G2 := Lib.hid (G.out.set a2 rfl)
  clear hb
  go_wp2_with fail
  generalize w1.setCell ⟨b, 1, none⟩ (.int .i64 (a2 : Int)) = w2 at *
  clear k1 f1
  have k1 : w2.cell? ⟨b, 1, none⟩ = some (.int .i64 a2) := G2.out.r.cell 1
  have k0 : w2.cell? ⟨b, 0, none⟩ = some (.string s) := G2.out.r.cell 0
  have i1 : (0 : Int) ≤ (a : Int) := by omega
  have i2 : (a : Int) ≤ (a2 : Int) := by omega
  have i3 : (a2 : Int) ≤ (s.size : Int) := by omega
  go_quiet (fail)
  go_wp2_with fail
  go_ret
  exact ⟨by rw [← S.out]; rfl, G2.out.call (below_drewN _ _)⟩
end Go.Proofs.YthfonniieaiocaaGreatDoor
