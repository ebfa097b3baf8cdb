/- Contracts: the law's host, refused, wrong; the reference's SameAddress. -/
import Derived.Test.YthfonniieaiocaaGreatDoorWe
import Derived.BigQuiet
set_option linter.unusedVariables false
set_option linter.unusedSimpArgs false
namespace Go.Proofs.YthfonniieaiocaaGreatDoor
open Go.RowKit

set_option maxRecDepth 100000 in
theorem refused_is (s : ByteArray) (z : Nat) (k : Int) (w : World) (h : uriL (byteL s) = .error (z, k)) (hC : CLS w) (hG : GM w) (hP : PT w) : Calls Tryz.prog 43 #[.string s, .int .i64 z, .int .u8 k] w fun e w' => e = .returned (.bool true) ∧ Below w.heap.size w w' := by
  have PW := kd (parse_wrong s h w hC hG hP)
  clear h hC hG hP
  go_enter Tryz.func43, Tryz.ntmps43
  go_wp2_with fail
  refine PW.out.mono ?_
  rintro e w1 ⟨rfl, hb1⟩
  have S1 := kd hb1
  clear hb1
  have RZ := kd (Row.new w1 32 [.string ⟨#[]⟩, .string ⟨#[]⟩, .string ⟨#[]⟩, .int .i64 0, .slice none 0 0, .slice none 0 0])
  go_wp2_with (with_reducible refine wpList_storeG rfl 32 (.tmp 7) (.tmp 13) rfl RZ.out [.string ⟨#[]⟩, .string ⟨#[]⟩, .string ⟨#[]⟩, .int .i64 0, .slice none 0 0, .slice none 0 0] rfl rfl (lenU _ _ _ _ _ _ _ _ _ _ _ _) (sizeU _ _ _ _ _ _) (u_one _ _ _ _) ?_)
  intro w2 R1 G_
  have S2 := kd (below_store (w := w1) (T := 32) (zs := [.string ⟨#[]⟩, .string ⟨#[]⟩, .string ⟨#[]⟩, .int .i64 0, .slice none 0 0, .slice none 0 0]) (Below.refl _ _) G_.out)
  clear RZ G_
  have B2 := kd (bthen S1.out S2.out)
  clear S1 S2
  have k0 : w2.cell? ⟨w1.heap.size, 0, none⟩ = some (.string ⟨#[]⟩) := R1.out.cell 0
  have k1 : w2.cell? ⟨w1.heap.size, 1, none⟩ = some (.string ⟨#[]⟩) := R1.out.cell 1
  have k2 : w2.cell? ⟨w1.heap.size, 2, none⟩ = some (.string ⟨#[]⟩) := R1.out.cell 2
  have k3 : w2.cell? ⟨w1.heap.size, 3, none⟩ = some (.int .i64 0) := R1.out.cell 3
  have k4 : w2.cell? ⟨w1.heap.size, 4, none⟩ = some (.slice none 0 0) := R1.out.cell 4
  have k5 : w2.cell? ⟨w1.heap.size, 5, none⟩ = some (.slice none 0 0) := R1.out.cell 5
  clear R1
  go_wp2_with fail
  refine (same_zero w2).mono ?_
  rintro _ w3 ⟨rfl, hb3⟩
  have B3 := kd (bthen B2.out hb3)
  clear k0 k1 k2 k3 k4 k5
  go_wp2_with fail
  go_ret
  exact ⟨rfl, B3.out⟩
structure AArg (w : World) (a : Adr) (A1 A2 A3 : Option Addr) : Prop where
  ds : By a.ds
  u : UArg w a.u A1 A2
  sp : ∀ p ∈ a.ps, pmSz p
  r3 : Rds w w.heap.size A3 (pms a.ps)
  l3 : a.ps.length ≤ 16000000
theorem AArg.step {w w' : World} {a : Adr} {A1 A2 A3 : Option Addr} (h : AArg w a A1 A2 A3) (hb : Below w.heap.size w w') : AArg w' a A1 A2 A3 := { h with u := h.u.step hb, r3 := (h.r3.below hb).up hb.size }
end Go.Proofs.YthfonniieaiocaaGreatDoor
