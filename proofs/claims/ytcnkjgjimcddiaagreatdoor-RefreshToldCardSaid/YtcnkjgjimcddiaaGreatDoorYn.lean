/- What RefreshTold's row needs besides: the powers of ten laid; numbers of 32 bits. -/
import Derived.Test.YtcnkjgjimcddiaaGreatDoorYl
import Derived.Test.YtcnkjgjimcddiaaGreatDoorFg
namespace Go.Proofs.YtcnkjgjimcddiaaGreatDoor
open Go.ChangeShapes Go.WideShapes Go.ChangeAt Go.RowKit

theorem gPow : Tryz.prog.globalNamed "internal/strconv.uint64pow10" = some 1 := by kernel_rfl
theorem tPow : (Tryz.prog.globals[1]?).map (·.type) = some 154 := by kernel_rfl
theorem cU64 : Tryz.prog.cellsOf 125 = 1 := by kernel_rfl
theorem cA20 : Tryz.prog.cellsOf 154 = 20 := by kernel_rfl
theorem PT_of_met {W : World} {rest : List (String × DataW Unit)} (h : laidMet Tryz.prog (("internal/strconv.uint64pow10", Rows.laid_internal_strconv_uint64pow10) :: rest) W) : PT W := by
  have h1 : laidMet Tryz.prog (("internal/strconv.uint64pow10", Lib.tabData .u64 Lib.pow10Tab) :: rest) W := h
  exact Lib.tabIs_of_head gPow tPow Tryz.underlying154 Tryz.underlying125 cU64 cA20 h1
theorem PT_of_k {W : World} (h : laidMetH Tryz.prog LDk W) : PT W := by
  rw [MakeChecks.laidMetH_plain _ _ _ (by kernel_rfl)] at h
  exact PT_of_met (laidMet.tail (laidMet.tail h))
theorem wf_w32 {x : Int} (h : (Lit.int .u32 x).wf = true) : 0 ≤ x ∧ x ≤ 4294967295 := by
  have e1 : IntKind.u32.min = 0 := rfl
  have e2 : IntKind.u32.max = 4294967295 := rfl
  simp [Lit.wf] at h
  omega
end Go.Proofs.YtcnkjgjimcddiaaGreatDoor
