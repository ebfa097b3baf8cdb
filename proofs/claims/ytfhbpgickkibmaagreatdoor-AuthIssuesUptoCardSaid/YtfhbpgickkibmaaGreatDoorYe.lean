/- More of what the rows share: the listed variables of the laws that issue. -/
import Derived.Test.YtfhbpgickkibmaaGreatDoorYd
import Derived.Test.YtfhbpgickkibmaaGreatDoorSa
namespace Go.Proofs.YtfhbpgickkibmaaGreatDoor
open Go.ChangeShapes Go.WideShapes Go.ChangeAt Go.RowKit

def LDi : List (String × DataW Unit) := [("math/bits.deBruijn32tab", Rows.laid_math_bits_deBruijn32tab), ("math/bits.deBruijn64tab", Rows.laid_math_bits_deBruijn64tab), ("dialtone/hash.constants", Rows.laid_dialtone_hash_constants), ("internal/strconv.uint64pow10", Rows.laid_internal_strconv_uint64pow10), ("unicode/utf8.acceptRanges", Rows.laid_unicode_utf8_acceptRanges), ("unicode/utf8.first", Rows.laid_unicode_utf8_first)]
def LDs : List (String × DataW Unit) := [("math/bits.deBruijn32tab", Rows.laid_math_bits_deBruijn32tab), ("math/bits.deBruijn64tab", Rows.laid_math_bits_deBruijn64tab), ("dialtone/hash.constants", Rows.laid_dialtone_hash_constants), ("internal/strconv.uint64pow10", Rows.laid_internal_strconv_uint64pow10), ("unicode/utf8.acceptRanges", Rows.laid_unicode_utf8_acceptRanges), ("dialtone/header.specials", Rows.laid_dialtone_header_specials), ("unicode/utf8.first", Rows.laid_unicode_utf8_first)]
theorem gPow : Tryz.prog.globalNamed "internal/strconv.uint64pow10" = some 2 := by kernel_rfl
theorem tPow : (Tryz.prog.globals[2]?).map (·.type) = some 214 := by kernel_rfl
theorem cU64 : Tryz.prog.cellsOf 151 = 1 := by kernel_rfl
theorem cA20 : Tryz.prog.cellsOf 214 = 20 := by kernel_rfl
theorem PT_of_met {W : World} {rest : List (String × DataW Unit)} (h : laidMet Tryz.prog (("internal/strconv.uint64pow10", Rows.laid_internal_strconv_uint64pow10) :: rest) W) : PT W := by
  have h1 : laidMet Tryz.prog (("internal/strconv.uint64pow10", Lib.tabData .u64 Lib.pow10Tab) :: rest) W := h
  exact Lib.tabIs_of_head gPow tPow Tryz.underlying214 Tryz.underlying151 cU64 cA20 h1
theorem door_met_i (os : Os) (args : Array Value) : laidMetH Tryz.prog LDi ((laidWorld os).forCall (fun _ _ => 0) ⟨#[], args, []⟩).memory :=
  laidMetH_of_parts3 (fuel := 8) (laidMet_of_run' 8 (by kernel_rfl) (by kernel_rfl)) (by kernel_rfl) (by kernel_rfl)
theorem KC_of_i {W : World} (h : laidMetH Tryz.prog LDi W) : KC W := by
  rw [MakeChecks.laidMetH_plain _ _ _ (by kernel_rfl)] at h
  exact KC_of_met (laidMet.tail (laidMet.tail h))
theorem PT_of_i {W : World} (h : laidMetH Tryz.prog LDi W) : PT W := by
  rw [MakeChecks.laidMetH_plain _ _ _ (by kernel_rfl)] at h
  exact PT_of_met (laidMet.tail (laidMet.tail (laidMet.tail h)))
theorem door_met_s (os : Os) (args : Array Value) : laidMetH Tryz.prog LDs ((laidWorld os).forCall (fun _ _ => 0) ⟨#[], args, []⟩).memory :=
  laidMetH_of_parts3 (fuel := 8) (laidMet_of_run' 8 (by kernel_rfl) (by kernel_rfl)) (by kernel_rfl) (by kernel_rfl)
theorem KC_of_s {W : World} (h : laidMetH Tryz.prog LDs W) : KC W := by
  rw [MakeChecks.laidMetH_plain _ _ _ (by kernel_rfl)] at h
  exact KC_of_met (laidMet.tail (laidMet.tail h))
theorem PT_of_s {W : World} (h : laidMetH Tryz.prog LDs W) : PT W := by
  rw [MakeChecks.laidMetH_plain _ _ _ (by kernel_rfl)] at h
  exact PT_of_met (laidMet.tail (laidMet.tail (laidMet.tail h)))
section
variable {H : Type} {enc : TypeId × Value → H} {W : World} {b0 : Nat} {v : Value} {d : DataW H} {p : List MemPlace}
set_option linter.constructorNameAsVariable false
set_option maxRecDepth 100000 in
theorem guard_open (hv : Value.okWide Tryz.prog W .any b0 49 v) (h : DataW.Trod enc Tryz.prog W 0 (fun _ => true) true 49 v d p) :
    ∃ (re ke : ByteArray) (life iss : Int) (A : Option Addr) (n c : Nat) (l : List Nce), v = .agg #[.string re, .string ke, .int .i64 life, .int .i64 iss, .slice A n c] ∧ re.size ≤ Rows.uptoBulk d ∧ ke.size ≤ Rows.uptoBulk d ∧ l.length = n ∧ Rds W W.heap.size A (ncs l) ∧ n ≤ Rows.uptoBulk d ∧ (A = none → n = 0 ∧ c = 0) := by
  obtain ⟨cs, rfl, hsz⟩ := okWide_struct Tryz.underlying49 hv
  obtain ⟨fuel, hf⟩ := h
  obtain ⟨re, ke, life, iss, A, m, c, l, q0, h0, h1, h2, h3, h4, h5⟩ := guard_trod (fun _ => rfl) hf
  refine ⟨re, ke, life, iss, A, m, c, l, ?_, h0, h1, h2, h3, h4, h5⟩
  congr 1
  apply Array.toList_inj.1
  exact q0
end
end Go.Proofs.YtfhbpgickkibmaaGreatDoor
