/- Contract: the law's awake. -/
import Derived.Test.YtfhbpgickkibmaaGreatDoorDf
import Derived.Laws.StructEq
namespace Go.Proofs.YtfhbpgickkibmaaGreatDoor
open Go.RowKit

theorem guard9 (x y : Operand) (xs ys : Array Value) (w : World) : (eqGuard .eql 23 x y (.agg xs) (.agg ys)).run Tryz.prog w = .ok () w := run_eqGuard_agg w .eql _ x y xs ys (by kernel_rfl)
theorem same9 (a b c d e f g : ByteArray) (k : Int) (h : Bool) (w : World) : (Op.equalIn 10000 23 (.agg #[.string a, .string b, .string c, .string d, .string e, .string f, .string g, .int .i64 k, .bool h]) (.agg #[.string a, .string b, .string c, .string d, .string e, .string f, .string g, .int .i64 k, .bool h])).run Tryz.prog w = .ok true w := by
  have u3 := Tryz.underlying3
  have u9 := Tryz.underlying9
  have u4 := Tryz.underlying4
  have a3 := Tryz.isAgg3
  have a9 := Tryz.isAgg9
  have a4 := Tryz.isAgg4
  have hS : Tryz.prog.underlying 23 = some (.struct (Tryz.prog.fieldsOf 23)) := by kernel_rfl
  have hp : Tryz.prog.stoodInHeld 23 = false := by kernel_rfl
  rw [show (10000 : Nat) = 9999 + 1 from rfl, run_equalIn_agg w 9999 23 _ _ hS hp]
  simp only [Program.fieldsOf, Tryz.underlying23]
  go_simp
theorem lit_cred : crV (parseCr (byteL ⟨#[100, 105, 103, 101, 115, 116, 32, 117, 115, 101, 114, 110, 97, 109, 101, 61, 117, 44, 32, 114, 101, 97, 108, 109, 61, 34, 114, 34, 44, 32, 110, 111, 110, 99, 101, 32, 61, 32, 110, 32, 44, 32, 117, 114, 105, 61, 34, 115, 105, 112, 58, 97, 34, 44, 32, 114, 101, 115, 112, 111, 110, 115, 101, 61, 120, 44, 32, 99, 110, 111, 110, 99, 101, 61, 99, 44, 32, 97, 108, 103, 111, 114, 105, 116, 104, 109, 61, 115, 104, 97, 45, 50, 53, 54, 44, 32, 113, 111, 112, 61, 97, 117, 116, 104, 45, 105, 110, 116, 44, 32, 110, 99, 61, 48, 48, 48, 48, 48, 48, 49, 70]⟩)) = .tuple #[.agg #[.string ⟨#[117]⟩, .string ⟨#[114]⟩, .string ⟨#[110]⟩, .string ⟨#[115, 105, 112, 58, 97]⟩, .string ⟨#[120]⟩, .string ⟨#[99]⟩, .string ⟨#[]⟩, .int .i64 31, .bool true], .int .u8 0] := by kernel_rfl
theorem lit_print : prV (printCh ⟨[114], [110], [], false, false⟩) = .tuple #[.string ⟨#[68, 105, 103, 101, 115, 116, 32, 114, 101, 97, 108, 109, 61, 34, 114, 34, 44, 32, 110, 111, 110, 99, 101, 61, 34, 110, 34, 44, 32, 97, 108, 103, 111, 114, 105, 116, 104, 109, 61, 83, 72, 65, 45, 50, 53, 54, 44, 32, 113, 111, 112, 61, 34, 97, 117, 116, 104, 34]⟩, .int .u8 0] := by kernel_rfl
theorem lit_basic : chV (parseCh (byteL ⟨#[66, 97, 115, 105, 99, 32, 114, 101, 97, 108, 109, 61, 34, 114, 34]⟩)) = .tuple #[.agg #[.string ⟨#[]⟩, .string ⟨#[]⟩, .string ⟨#[]⟩, .bool false, .bool false], .int .u8 15] := by kernel_rfl
set_option maxRecDepth 100000 in
set_option maxHeartbeats 2000000 in
theorem awake_any (w : World) (hm : GM w) : Calls Tryz.prog 16 #[] w fun e w' => e = .returned (.bool true) ∧ Below w.heap.size w w' := by
  have HG := Lib.hid hm
  clear hm
  go_enter Tryz.func16, Tryz.ntmps16
  go_wp2_with fail
  refine (printch_any ⟨#[114]⟩ ⟨#[110]⟩ ⟨#[]⟩ false false _ (by decide) (by decide) (by decide)).mono ?_
  rintro e w1 ⟨rfl, hb1⟩
  have B1 := Lib.hid hb1
  clear hb1
  rw [show prV (printCh ⟨byteL ⟨#[114]⟩, byteL ⟨#[110]⟩, byteL ⟨#[]⟩, false, false⟩) = _ from lit_print]
  go_wp2_with fail
  refine (parsecr_any _ _ (by decide)).mono ?_
  rintro e w2 ⟨rfl, hb2⟩
  have B2 := Lib.hid (bthen B1.out hb2)
  clear hb2 B1
  rw [lit_cred]
  have R0 := Lib.hid (Row.new w2 23 Z9)
  have B0 := Lib.hid ((Below.refl w2.heap.size w2).alloc (Nat.le_refl _) (.cells Z9.toArray 23))
  go_wp2_with (with_reducible refine wpList_storeR rfl 23 (.tmp 3) (.tmp 14) rfl R0.out [.string ⟨#[117]⟩, .string ⟨#[114]⟩, .string ⟨#[110]⟩, .string ⟨#[115, 105, 112, 58, 97]⟩, .string ⟨#[120]⟩, .string ⟨#[99]⟩, .string ⟨#[]⟩, .int .i64 31, .bool true] rfl rfl (lenL9 _ _ _ _ _ _ _ _ _ _ _ _ _ _ _ _ _ _) (sizeL9 _ _ _ _ _ _ _ _ _) (p9_one _ _ _ _ _ _ _ _ _) B0.out (Nat.le_refl _) ?_)
  intro w3 R3 B3 _
  have B4 := Lib.hid (bthen B2.out B3.out)
  clear R0 B0 B2
  have g3 := HG.out.below B4.out
  go_wp2_with fail
  refine (parsech_any _ _ (by decide) g3).mono ?_
  rintro e w4 ⟨rfl, hb4⟩
  rw [lit_basic]
  have R4 := Lib.hid (R3.out.below hb4)
  have B5 := Lib.hid (bthen B4.out hb4)
  clear hb4 R3 B3 B4
  have R5 := Lib.hid (Row.new w4 36 Z5)
  have B6 := Lib.hid ((Below.refl w4.heap.size w4).alloc (Nat.le_refl _) (.cells Z5.toArray 36))
  go_wp2_with (with_reducible refine wpList_storeR rfl 36 (.tmp 5) (.tmp 18) rfl R5.out Z5 rfl rfl (lenL5 _ _ _ _ _ _ _ _ _ _) (sizeL5 _ _ _ _ _) (p5_one _ _ _ _ _) B6.out (Nat.le_refl _) ?_)
  intro w5 R7 B7 _
  have R8 := Lib.hid (R4.out.below B7.out)
  have B8 := Lib.hid (bthen B5.out B7.out)
  have k0 : w5.cell? ⟨w2.heap.size, 0, none⟩ = some (.string ⟨#[117]⟩) := R8.out.cell 0
  have k1 : w5.cell? ⟨w2.heap.size, 1, none⟩ = some (.string ⟨#[114]⟩) := R8.out.cell 1
  have k2 : w5.cell? ⟨w2.heap.size, 2, none⟩ = some (.string ⟨#[110]⟩) := R8.out.cell 2
  have k3 : w5.cell? ⟨w2.heap.size, 3, none⟩ = some (.string ⟨#[115, 105, 112, 58, 97]⟩) := R8.out.cell 3
  have k4 : w5.cell? ⟨w2.heap.size, 4, none⟩ = some (.string ⟨#[120]⟩) := R8.out.cell 4
  have k5 : w5.cell? ⟨w2.heap.size, 5, none⟩ = some (.string ⟨#[99]⟩) := R8.out.cell 5
  have k6 : w5.cell? ⟨w2.heap.size, 6, none⟩ = some (.string ⟨#[]⟩) := R8.out.cell 6
  have k7 : w5.cell? ⟨w2.heap.size, 7, none⟩ = some (.int .i64 31) := R8.out.cell 7
  have k8 : w5.cell? ⟨w2.heap.size, 8, none⟩ = some (.bool true) := R8.out.cell 8
  have hgd := guard9
  have hsm := same9
  have hse : ∀ (xs ys : Array Value) (w : World), (binOp .eql 23 (.agg xs) (.agg ys)).run Tryz.prog w = ((Op.equalIn 10000 23 (.agg xs) (.agg ys)).run Tryz.prog w).andThen fun b w' => .ok (.bool b) w' := fun xs ys w => run_eql_struct w _ xs ys
  go_wp2_with fail
  go_ret
  exact ⟨rfl, B8.out⟩
end Go.Proofs.YtfhbpgickkibmaaGreatDoor
