/- Messages and asks, opened; the special names out of the listed variables. Desks opened: guards, nonces, accounts. More of what the rows share: the listed variables of the laws that issue. More of what the rows share: numbers of 32 bits opened. More of what the rows share: a login opened; bytes opened. -/
import Derived.Test.YtfhbpgickkibmaaGreatDoorYb
import Derived.Test.YtfhbpgickkibmaaGreatDoorNg
import Derived.Deep.Slices
import Derived.Deep.Fields
import Derived.ChangeSame
import Derived.Test.YtfhbpgickkibmaaGreatDoorRc
import Derived.Test.YtfhbpgickkibmaaGreatDoorSa
import Derived.Test.YtfhbpgickkibmaaGreatDoorTd
namespace Go.Proofs.YtfhbpgickkibmaaGreatDoor
open Go.ChangeShapes Go.WideShapes Go.ChangeAt Go.RowKit
open Go.ChangeMaps (open_string shut_string)

theorem gSp : Tryz.prog.globalNamed "dialtone/header.specials" = some 0 := by kernel_rfl
theorem tSp : (Tryz.prog.globals[0]?).map (·.type) = some 179 := by kernel_rfl
theorem cA7 : Tryz.prog.cellsOf 179 = 7 := by kernel_rfl
theorem laidSp {H : Type} : (Rows.laid_dialtone_header_specials (H := H)) = .agg (SPECIALS.map fun s => .lit (.string (strOfNums s).data.toList)) := by kernel_rfl
theorem SC_of_head {W : World} {rest : List (String × DataW Unit)} (h : laidMet Tryz.prog (("dialtone/header.specials", Rows.laid_dialtone_header_specials) :: rest) W) : SC W := by
  obtain ⟨ps, ⟨g', t', cs, fuel, p, q, hg', ht', hvar, hd, _, _⟩, _⟩ := h
  obtain rfl := Option.some.inj (gSp.symm.trans hg')
  obtain rfl := Option.some.inj (tSp.symm.trans ht')
  rw [laidSp] at hd
  obtain ⟨xs, m, _, hx, hl, hlen, hf⟩ := DataW.trod_array Tryz.underlying179 hd
  rw [cA7] at hl
  have hxs : xs.map (·.1) = SPECIALS.map fun s => (DataW.lit (.string (strOfNums s).data.toList)) := by
    have := congrArg Prod.fst hx
    simpa using this.symm
  have key : ∀ (j : Nat) (v : Value), SPV[j]? = some v → cs.toList[j]? = some v := fun j v hv => by
    have hj : j < 7 := (List.getElem?_eq_some_iff.1 hv).1
    have h1 := hf j hj
    rw [cS, Nat.mul_one] at h1
    rw [List.getElem?_eq_getElem (by rw [hlen]; exact hj)] at h1
    obtain ⟨s, hc, hy, _⟩ := DataW.trod_string Tryz.underlying9 h1
    have h2 : (xs.map (·.1))[j]? = some (DataW.lit (.string s.data.toList)) := by
      rw [List.getElem?_map, List.getElem?_eq_getElem (by rw [hlen]; exact hj), hy]; rfl
    rw [hxs, List.getElem?_map] at h2
    obtain ⟨x, hx1, hx2⟩ := Option.map_eq_some_iff.1 h2
    injection hx2 with hx3
    injection hx3 with hx4
    have hs : s = strOfNums x := by
      have : (strOfNums x).data = s.data := Array.toList_inj.1 hx4
      cases s
      generalize strOfNums x = y at *
      cases y
      simp_all
    have h3 : cs.toList[j]? = some (.string s) := by
      have := congrArg (·[0]?) hc
      simpa [List.getElem?_take, List.getElem?_drop] using this
    rw [h3, hs]
    unfold SPV at hv
    rw [List.getElem?_map, hx1] at hv
    exact hv
  have cell : ∀ (j : Nat) (v : Value), SPV[j]? = some v → W.cell? ⟨0, j, none⟩ = some v := fun j v hv => by
    rw [World.var?_cell gSp hvar j]
    simpa using key j v hv
  exact ⟨block_lt_of_cell (cell 0 _ rfl), fun j v hv => by rw [Nat.zero_add]; exact cell j v hv⟩
section
open Go.Deep
variable {H : Type} {enc : TypeId × Value → H} {P : Program} {w : World} {base : Nat} {spare : Nat → Bool} {held : Bool}
end
section
variable {H : Type} {enc : TypeId × Value → H} {W : World} {b0 : Nat} {v : Value} {d : DataW H} {p : List MemPlace}
theorem bytesN_trod {fuel : Nat} {base : Nat} {sp : Nat → Bool} {hd : Bool} {v : Value} {y : DataW H × List MemPlace} (hsp : ∀ b, sp b = true) (h : DataW.trod enc Tryz.prog W base sp hd fuel 31 [v] = some y) :
    ∃ (A : Option Addr) (n c : Nat) (bs : List Int), v = .slice A n c ∧ By bs ∧ bs.length = n ∧ Bs W W.heap.size A bs ∧ n ≤ Rows.uptoBulk y.1 ∧ (A = none → n = 0 ∧ c = 0) := by
  rcases open_ints Tryz.underlying31 Tryz.underlying5 cU8 h with ⟨h1, h2⟩ | ⟨a, len, cap, zs, h1, _⟩
  · simp at h1
    exact ⟨none, 0, 0, [], h1, fun x hx => absurd hx (by simp), rfl, fun h => absurd h (by simp), Nat.zero_le _, fun _ => ⟨rfl, rfl⟩⟩
  · simp at h1
    obtain ⟨A, n, c, bs, e, h2, h3, _, h5, h6⟩ := bytes_trod hsp h
    refine ⟨A, n, c, bs, e, h2, h3, h5, h6, fun hA => ?_⟩
    rw [h1, hA] at e
    cases e
set_option linter.constructorNameAsVariable false
end
end Go.Proofs.YtfhbpgickkibmaaGreatDoor
namespace Go.Proofs.YtfhbpgickkibmaaGreatDoor
open Go.ChangeShapes Go.WideShapes Go.ChangeAt Go.RowKit
open Go.ChangeMaps (open_string shut_string)

section
variable {H : Type} {enc : TypeId × Value → H} {W : World} {b0 : Nat} {v : Value} {d : DataW H} {p : List MemPlace}
set_option linter.constructorNameAsVariable false
end
end Go.Proofs.YtfhbpgickkibmaaGreatDoor
namespace Go.Proofs.YtfhbpgickkibmaaGreatDoor
open Go.ChangeShapes Go.WideShapes Go.ChangeAt Go.RowKit

def LDi : List (String × DataW Unit) := [("math/bits.deBruijn32tab", Rows.laid_math_bits_deBruijn32tab), ("math/bits.deBruijn64tab", Rows.laid_math_bits_deBruijn64tab), ("dialtone/hash.constants", Rows.laid_dialtone_hash_constants), ("internal/strconv.uint64pow10", Rows.laid_internal_strconv_uint64pow10), ("unicode/utf8.acceptRanges", Rows.laid_unicode_utf8_acceptRanges), ("unicode/utf8.first", Rows.laid_unicode_utf8_first)]
def LDs : List (String × DataW Unit) := [("math/bits.deBruijn32tab", Rows.laid_math_bits_deBruijn32tab), ("math/bits.deBruijn64tab", Rows.laid_math_bits_deBruijn64tab), ("dialtone/hash.constants", Rows.laid_dialtone_hash_constants), ("internal/strconv.uint64pow10", Rows.laid_internal_strconv_uint64pow10), ("unicode/utf8.acceptRanges", Rows.laid_unicode_utf8_acceptRanges), ("dialtone/header.specials", Rows.laid_dialtone_header_specials), ("unicode/utf8.first", Rows.laid_unicode_utf8_first)]
theorem gPow : Tryz.prog.globalNamed "internal/strconv.uint64pow10" = some 2 := by kernel_rfl
theorem tPow : (Tryz.prog.globals[2]?).map (·.type) = some 214 := by kernel_rfl
theorem cU64 : Tryz.prog.cellsOf 151 = 1 := by kernel_rfl
theorem cA20 : Tryz.prog.cellsOf 214 = 20 := by kernel_rfl
theorem PT_of_met {W : World} {rest : List (String × DataW Unit)} (h : laidMet Tryz.prog (("internal/strconv.uint64pow10", Rows.laid_internal_strconv_uint64pow10) :: rest) W) : PT W := by
  have h1 : laidMet Tryz.prog (("internal/strconv.uint64pow10", Lib.tabData .u64 Lib.pow10Tab) :: rest) W := h
  exact Lib.tabIs_of_head gPow tPow Tryz.underlying214 Tryz.underlying151 cU64 cA20 h1
theorem door_met_s (os : Os) (args : Array Value) : laidMetH Tryz.prog LDs ((laidWorld os).forCall (fun _ _ => 0) ⟨#[], args, []⟩).memory :=
  laidMetH_of_parts3 (fuel := 8) (laidMet_of_run' 8 (by kernel_rfl) (by kernel_rfl)) (by kernel_rfl) (by kernel_rfl)
theorem KC_of_s {W : World} (h : laidMetH Tryz.prog LDs W) : KC W := by
  rw [MakeChecks.laidMetH_plain _ _ _ (by kernel_rfl)] at h
  exact KC_of_met (laidMet.tail (laidMet.tail h))
theorem PT_of_s {W : World} (h : laidMetH Tryz.prog LDs W) : PT W := by
  rw [MakeChecks.laidMetH_plain _ _ _ (by kernel_rfl)] at h
  exact PT_of_met (laidMet.tail (laidMet.tail (laidMet.tail h)))
section
variable {H : Type} {enc : TypeId × Value → H} {W : World} {b0 : Nat} {v : Value} {d : DataW H} {p : List MemPlace}
set_option linter.constructorNameAsVariable false
end
end Go.Proofs.YtfhbpgickkibmaaGreatDoor
namespace Go.Proofs.YtfhbpgickkibmaaGreatDoor
open Go.ChangeShapes Go.WideShapes Go.ChangeAt Go.RowKit

theorem SC_of_s {W : World} (h : laidMetH Tryz.prog LDs W) : SC W := by
  rw [MakeChecks.laidMetH_plain _ _ _ (by kernel_rfl)] at h
  exact SC_of_head (laidMet.tail (laidMet.tail (laidMet.tail (laidMet.tail (laidMet.tail h)))))
section
variable {H : Type} {enc : TypeId × Value → H} {W : World} {b0 : Nat} {v : Value} {d : DataW H} {p : List MemPlace}
set_option linter.constructorNameAsVariable false
end
end Go.Proofs.YtfhbpgickkibmaaGreatDoor
namespace Go.Proofs.YtfhbpgickkibmaaGreatDoor
open Go.ChangeShapes Go.WideShapes Go.ChangeAt Go.RowKit

section
variable {H : Type} {enc : TypeId × Value → H} {W : World} {b0 : Nat} {v : Value} {d : DataW H} {p : List MemPlace}
theorem four4 {α : Type} {l : List α} (h : l.length = 4) : ∃ a b c d, l = [a, b, c, d] := by
  match l, h with
  | [a, b, c, d], _ => exact ⟨a, b, c, d, rfl⟩
theorem c4c : Tryz.prog.cellsOf 64 = 4 := by kernel_rfl
set_option linter.constructorNameAsVariable false
set_option maxRecDepth 100000 in
theorem bytes_open3 (hv : Value.okWide Tryz.prog W .any b0 31 v) (h : DataW.Trod enc Tryz.prog W 0 (fun _ => true) true 31 v d p) :
    ∃ (A : Option Addr) (n c : Nat) (bs : List Int), v = .slice A n c ∧ By bs ∧ bs.length = n ∧ Bs W W.heap.size A bs ∧ n ≤ Rows.uptoBulk d ∧ (A = none → n = 0 ∧ c = 0) := by
  obtain ⟨A, n, c, rfl⟩ := okWide_slice Tryz.underlying31 hv
  obtain ⟨fuel, hf⟩ := h
  exact bytesN_trod (fun _ => rfl) hf
set_option maxRecDepth 100000 in
theorem login_open (hv : Value.okWide Tryz.prog W .any b0 64 v) (h : DataW.Trod enc Tryz.prog W 0 (fun _ => true) true 64 v d p) :
    ∃ (us rs pw ty : ByteArray), v = .agg #[.string us, .string rs, .string pw, .string ty] ∧ us.size + rs.size + pw.size + ty.size ≤ Rows.uptoBulk d := by
  obtain ⟨cs, rfl, hsz⟩ := okWide_struct Tryz.underlying64 hv
  obtain ⟨fuel, hf⟩ := h
  obtain ⟨xs, n, _, hx, hl, hlen, hfld⟩ := DataW.trod_struct Tryz.underlying64 hf
  rw [c4c] at hl
  obtain ⟨x0, x1, x2, x3, hL⟩ := four4 hl
  obtain ⟨y0, y1, y2, y3, rfl⟩ := four4 (show xs.length = 4 from hlen)
  have e0 : DataW.trod enc Tryz.prog W 0 (fun _ => true) true n 9 (((Value.agg cs).cells.toList.drop 0).take (Tryz.prog.cellsOf 9)) = some y0 := hfld 0 _ rfl
  have e1 : DataW.trod enc Tryz.prog W 0 (fun _ => true) true n 9 (((Value.agg cs).cells.toList.drop 1).take (Tryz.prog.cellsOf 9)) = some y1 := hfld 1 _ rfl
  have e2 : DataW.trod enc Tryz.prog W 0 (fun _ => true) true n 9 (((Value.agg cs).cells.toList.drop 2).take (Tryz.prog.cellsOf 9)) = some y2 := hfld 2 _ rfl
  have e3 : DataW.trod enc Tryz.prog W 0 (fun _ => true) true n 9 (((Value.agg cs).cells.toList.drop 3).take (Tryz.prog.cellsOf 9)) = some y3 := hfld 3 _ rfl
  rw [hL, cS] at e0 e1 e2 e3
  obtain ⟨a, rfl, z0⟩ := one_str (x := x0) (y := y0) e0
  obtain ⟨b, rfl, z1⟩ := one_str (x := x1) (y := y1) e1
  obtain ⟨c, rfl, z2⟩ := one_str (x := x2) (y := y2) e2
  obtain ⟨e, rfl, z3⟩ := one_str (x := x3) (y := y3) e3
  refine ⟨a, b, c, e, ?_, ?_⟩
  · congr 1
    apply Array.toList_inj.1
    exact hL
  · rw [Prod.mk.injEq] at hx
    rw [hx.1]
    simp only [List.map_cons, List.map_nil, Rows.uptoBulk, Rows.uptoBulkAll, z0, z1, z2, z3]
    simp
    omega
end
end Go.Proofs.YtfhbpgickkibmaaGreatDoor
