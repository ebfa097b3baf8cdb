/- What the rows of chapter 19 share: the listed variables laid, the special names and the kinds out of them; timers, agreements opened. What the rows of chapter 19 share: a timer and an agreement, opened. -/
import Derived.Test.YtcnkjgjimcddiaaGreatDoorAn
import Derived.Test.YtcnkjgjimcddiaaGreatDoorZb
import Derived.Test.YtcnkjgjimcddiaaGreatDoorRows
import Derived.WalkKit
import Derived.ProofKit
import Derived.LaidMore
import Derived.OpenShut
import Derived.ShutString
import Derived.Stop.Joined
import Derived.Shelf.Vars
import Derived.Deep.DeepHandedRow
import Derived.Deep.Slices
import Derived.Deep.Fields
import Derived.ChangeSame
import Derived.Stop.LaidErr
namespace Go.Proofs.YtcnkjgjimcddiaaGreatDoor
open Go.ChangeShapes Go.WideShapes Go.ChangeAt Go.RowKit
open Go.ChangeMaps (open_string shut_string)

theorem own : ownKnob Tryz.prog.godebug = none := by kernel_rfl
theorem laidOut : laidOutB Tryz.prog = true := by kernel_rfl
def LDk : List (String × DataW Unit) := [("math/bits.deBruijn32tab", Rows.laid_math_bits_deBruijn32tab), ("math/bits.deBruijn64tab", Rows.laid_math_bits_deBruijn64tab), ("internal/strconv.uint64pow10", Rows.laid_internal_strconv_uint64pow10), ("unicode/utf8.acceptRanges", Rows.laid_unicode_utf8_acceptRanges), ("dialtone/header.specials", Rows.laid_dialtone_header_specials), ("dialtone/header.kinds", Rows.laid_dialtone_header_kinds), ("unicode/utf8.first", Rows.laid_unicode_utf8_first)]
noncomputable def laidWorld (os : Os) : World :=
  { World.doorLaid Tryz.prog 400 os with heap := (World.doorLaid Tryz.prog 400 os).heap.modify 5 fun
      | .cells _ t frozen => .cells (Go.Pinned.utf8FirstZ.map fun (x : Nat) => Value.int .u8 (x : Int)).toArray t frozen
      | o => o }
theorem door_met_k (os : Os) (args : Array Value) : laidMetH Tryz.prog LDk ((laidWorld os).forCall (fun _ _ => 0) ⟨#[], args, []⟩).memory :=
  laidMetH_of_parts3 (fuel := 8) (laidMet_of_run' 8 (by kernel_rfl) (by kernel_rfl)) (by kernel_rfl) (by kernel_rfl)
theorem cS : Tryz.prog.cellsOf 9 = 1 := by kernel_rfl
theorem cKn : Tryz.prog.cellsOf 144 = 1 := by kernel_rfl
theorem gSp : Tryz.prog.globalNamed "dialtone/header.specials" = some 0 := by kernel_rfl
theorem tSp : (Tryz.prog.globals[0]?).map (·.type) = some 123 := by kernel_rfl
theorem cA7 : Tryz.prog.cellsOf 123 = 7 := by kernel_rfl
theorem str_back {s : ByteArray} {x : List Int} (h : (strOfNums x).data.toList = s.data.toList) : s = strOfNums x := by
  have : (strOfNums x).data = s.data := Array.toList_inj.1 h
  cases s
  generalize strOfNums x = y at *
  cases y
  simp_all
theorem laidSp {H : Type} : (Rows.laid_dialtone_header_specials (H := H)) = .agg (SPECIALS.map fun s => .lit (.string (strOfNums s).data.toList)) := by kernel_rfl
theorem SC_of_head {W : World} {rest : List (String × DataW Unit)} (h : laidMet Tryz.prog (("dialtone/header.specials", Rows.laid_dialtone_header_specials) :: rest) W) : SC W := by
  obtain ⟨ps, ⟨g', t', cs, fuel, p, q, hg', ht', hvar, hd, _, _⟩, _⟩ := h
  obtain rfl := Option.some.inj (gSp.symm.trans hg')
  obtain rfl := Option.some.inj (tSp.symm.trans ht')
  rw [laidSp] at hd
  obtain ⟨xs, m, _, hx, hl, hlen, hf⟩ := DataW.trod_array Tryz.underlying123 hd
  rw [cA7] at hl
  have hxs : xs.map (·.1) = SPECIALS.map fun s => (DataW.lit (.string (strOfNums s).data.toList)) := by
    have := congrArg Prod.fst hx
    simpa using this.symm
  have key : ∀ (j : Nat) (v : Value), SPV[j]? = some v → cs.toList[j]? = some v := fun j v hv => by
    have hj : j < 7 := (List.getElem?_eq_some_iff.1 hv).1
    have h1 := hf j hj
    rw [cS, Nat.mul_one] at h1
    rw [List.getElem?_eq_getElem (by rw [hlen]; exact hj)] at h1
    obtain ⟨s, hc, hy, _⟩ := DataW.trod_string Tryz.underlying9 h1
    have h2 : (xs.map (·.1))[j]? = some (DataW.lit (.string s.data.toList)) := by
      rw [List.getElem?_map, List.getElem?_eq_getElem (by rw [hlen]; exact hj), hy]; rfl
    rw [hxs, List.getElem?_map] at h2
    obtain ⟨x, hx1, hx2⟩ := Option.map_eq_some_iff.1 h2
    injection hx2 with hx3
    injection hx3 with hx4
    have h3 : cs.toList[j]? = some (.string s) := by
      have := congrArg (·[0]?) hc
      simpa [List.getElem?_take, List.getElem?_drop] using this
    rw [h3, str_back hx4]
    unfold SPV at hv
    rw [List.getElem?_map, hx1] at hv
    exact hv
  have cell : ∀ (j : Nat) (v : Value), SPV[j]? = some v → W.cell? ⟨0, j, none⟩ = some v := fun j v hv => by
    rw [World.var?_cell gSp hvar j]
    simpa using key j v hv
  exact ⟨block_lt_of_cell (cell 0 _ rfl), fun j v hv => by rw [Nat.zero_add]; exact cell j v hv⟩
theorem gKi : Tryz.prog.globalNamed "dialtone/header.kinds" = some 2 := by kernel_rfl
theorem tKi : (Tryz.prog.globals[2]?).map (·.type) = some 165 := by kernel_rfl
theorem cSt : Tryz.prog.cellsOf 164 = 2 := by kernel_rfl
theorem laidKi {H : Type} : (Rows.laid_dialtone_header_kinds (H := H)) = .agg (KINDS.map fun q => .agg [.lit (.string (strOfNums q.1).data.toList), .lit (.int .i64 q.2)]) := by kernel_rfl
theorem two_of {α : Type} {l : List α} (h : l.length = 2) : ∃ a b, l = [a, b] := by
  match l, h with
  | [a, b], _ => exact ⟨a, b, rfl⟩
theorem KD_of_head {W : World} {rest : List (String × DataW Unit)} (h : laidMet Tryz.prog (("dialtone/header.kinds", Rows.laid_dialtone_header_kinds) :: rest) W) : KD W := by
  obtain ⟨ps, ⟨g', t', cs, fuel, p, q, hg', ht', hvar, hd, _, _⟩, _⟩ := h
  obtain rfl := Option.some.inj (gKi.symm.trans hg')
  obtain rfl := Option.some.inj (tKi.symm.trans ht')
  rw [laidKi] at hd
  obtain ⟨xs, m, _, hx, hl, hlen, hf⟩ := DataW.trod_array Tryz.underlying165 hd
  have hxs : xs.map (·.1) = KINDS.map fun q => (DataW.agg [.lit (.string (strOfNums q.1).data.toList), .lit (.int .i64 q.2)]) := by
    have := congrArg Prod.fst hx
    simpa using this.symm
  have key : ∀ (k : Nat), k < 31 → cs.toList[k * 2]? = some (.string (strOfNums (KINDS.getD k ([], 0)).1)) ∧ cs.toList[k * 2 + 1]? = some (.int .i64 (KINDS.getD k ([], 0)).2) := fun k hj => by
    have h1 := hf k hj
    rw [cSt] at h1
    rw [List.getElem?_eq_getElem (by rw [hlen]; exact hj)] at h1
    have h2 : (xs.map (·.1))[k]? = some ((xs[k]'(by rw [hlen]; exact hj)).1) := by
      rw [List.getElem?_map, List.getElem?_eq_getElem (by rw [hlen]; exact hj)]; rfl
    rw [hxs, List.getElem?_map, show KINDS[k]? = some (KINDS.getD k ([], 0)) by rw [List.getD_eq_getElem?_getD, List.getElem?_eq_getElem (show k < KINDS.length from hj)]; rfl] at h2
    have hx1 := Option.some.inj h2
    generalize xs[k]'(by rw [hlen]; exact hj) = y at *
    obtain ⟨zs, m2, _, hy, hyl, hylen, hfld⟩ := DataW.trod_struct Tryz.underlying164 h1
    obtain ⟨y0, y1, rfl⟩ := two_of (show zs.length = 2 from hylen)
    have e0 := hfld 0 _ rfl
    have e1 := hfld 1 _ rfl
    obtain ⟨s, hc, hys, _⟩ := DataW.trod_string Tryz.underlying9 e0
    obtain ⟨z, hc1, hys1, _⟩ := DataW.trod_int Tryz.underlying144 e1
    have hy2 := congrArg Prod.fst hy
    rw [← hx1, hys, hys1] at hy2
    replace hc : (((cs.toList.drop (k * 2)).take 2).drop 0).take (Tryz.prog.cellsOf 9) = [.string s] := hc
    replace hc1 : (((cs.toList.drop (k * 2)).take 2).drop 1).take (Tryz.prog.cellsOf 144) = [.int .i64 z] := hc1
    rw [cS] at hc
    rw [cKn] at hc1
    generalize KINDS.getD k ([], 0) = qq at *
    simp at hy2
    obtain ⟨q1, q2⟩ := hy2
    constructor
    · have := congrArg (·[0]?) hc
      have h3 : cs.toList[k * 2]? = some (.string s) := by
        simpa [List.getElem?_take, List.getElem?_drop] using this
      rw [h3, str_back (congrArg Array.toList q1)]
    · have := congrArg (·[0]?) hc1
      have h3 : cs.toList[k * 2 + 1]? = some (.int .i64 z) := by
        simpa [List.getElem?_take, List.getElem?_drop] using this
      rw [h3, q2]
  have cell : ∀ (j : Nat) (v : Value), KDV[j]? = some v → W.cell? ⟨2, j, none⟩ = some v := fun j v hv => by
    have hj : j < 62 := (List.getElem?_eq_some_iff.1 hv).1
    have hp : KINDS[j / 2]? = some (KINDS.getD (j / 2) ([], 0)) := by
      rw [List.getD_eq_getElem?_getD, List.getElem?_eq_getElem (show j / 2 < KINDS.length from by show j / 2 < 31; omega)]; rfl
    obtain ⟨k0, k1⟩ := key (j / 2) (by omega)
    rw [World.var?_cell gKi hvar j]
    rcases (show j % 2 = 0 ∨ j % 2 = 1 by omega) with h2 | h2
    · have h3 := flat_at (fun q : List Int × Int => [Value.string (strOfNums q.1), .int .i64 q.2]) 2 (fun _ => rfl) KINDS (j / 2) 0 _ hp (by decide)
      rw [show j / 2 * 2 + 0 = j by omega] at h3
      have h4 := h3.symm.trans hv
      rw [show j / 2 * 2 = j by omega] at k0
      have h5 : v = .string (strOfNums (KINDS.getD (j / 2) ([], 0)).1) := (Option.some.inj h4).symm
      subst h5
      simpa using k0
    · have h3 := flat_at (fun q : List Int × Int => [Value.string (strOfNums q.1), .int .i64 q.2]) 2 (fun _ => rfl) KINDS (j / 2) 1 _ hp (by decide)
      rw [show j / 2 * 2 + 1 = j by omega] at h3
      have h4 := h3.symm.trans hv
      rw [show j / 2 * 2 + 1 = j by omega] at k1
      have h5 : v = .int .i64 (KINDS.getD (j / 2) ([], 0)).2 := (Option.some.inj h4).symm
      subst h5
      simpa using k1
  exact ⟨block_lt_of_cell (cell 0 _ rfl), fun j v hv => by rw [Nat.zero_add]; exact cell j v hv⟩
theorem SC_of_k {W : World} (h : laidMetH Tryz.prog LDk W) : SC W := by
  rw [MakeChecks.laidMetH_plain _ _ _ (by kernel_rfl)] at h
  exact SC_of_head (laidMet.tail (laidMet.tail (laidMet.tail (laidMet.tail h))))
theorem KD_of_k {W : World} (h : laidMetH Tryz.prog LDk W) : KD W := by
  rw [MakeChecks.laidMetH_plain _ _ _ (by kernel_rfl)] at h
  exact KD_of_head (laidMet.tail (laidMet.tail (laidMet.tail (laidMet.tail (laidMet.tail h)))))
end Go.Proofs.YtcnkjgjimcddiaaGreatDoor
namespace Go.Proofs.YtcnkjgjimcddiaaGreatDoor
open Go.ChangeShapes Go.WideShapes Go.ChangeAt Go.RowKit

section
variable {H : Type} {enc : TypeId × Value → H} {W : World} {b0 : Nat} {v : Value} {d : DataW H} {p : List MemPlace}
set_option linter.constructorNameAsVariable false
end
end Go.Proofs.YtcnkjgjimcddiaaGreatDoor
