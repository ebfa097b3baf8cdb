/- What the rows of this seat share: the arguments opened, the listed variables laid, MaxLen's number out of the world's shape. -/
import Derived.Test.YtfhbpgickkibmaaDoorMc
import Derived.Test.YtfhbpgickkibmaaDoorLb
import Derived.Test.YtfhbpgickkibmaaDoorZb
import Derived.Test.YtfhbpgickkibmaaDoorRows
import Derived.WalkKit
import Derived.ProofKit
import Derived.LaidMore
import Derived.OpenShut
import Derived.ShutString
import Derived.Stop.Joined
import Derived.Shelf.Vars
import Derived.Deep.DeepHandedRow
namespace Go.Proofs.YtfhbpgickkibmaaDoor
open Go.ChangeShapes Go.WideShapes Go.ChangeAt Go.RowKit
open Go.ChangeMaps (open_string shut_string)

theorem own : ownKnob Tryd.prog.godebug = none := by kernel_rfl
theorem laidOut : laidOutB Tryd.prog = true := by kernel_rfl
theorem readable : ∀ t ∈ [9, 23, 32], Tryd.prog.readableRec t = true ∧ t < Tryd.prog.types.size := by
  intro t ht
  simp only [List.mem_cons, List.not_mem_nil, or_false] at ht
  rcases ht with rfl | rfl | rfl
  all_goals exact ⟨by kernel_rfl, of_decide_eq_true (by kernel_rfl)⟩
def LD : List (String × DataW Unit) := [("unicode/utf8.acceptRanges", Rows.laid_unicode_utf8_acceptRanges), ("unicode/utf8.first", Rows.laid_unicode_utf8_first)]
noncomputable def laidWorld (os : Os) : World :=
  { World.doorLaid Tryd.prog 400 os with heap := (World.doorLaid Tryd.prog 400 os).heap.modify 1 fun
      | .cells _ t frozen => .cells (Go.Pinned.utf8FirstZ.map fun (x : Nat) => Value.int .u8 (x : Int)).toArray t frozen
      | o => o }
theorem door_met (os : Os) (args : Array Value) : laidMetH Tryd.prog LD ((laidWorld os).forCall (fun _ _ => 0) ⟨#[], args, []⟩).memory :=
  laidMetH_of_parts3 (fuel := 8) (laidMet_of_run' 8 (by kernel_rfl) (by kernel_rfl)) (by kernel_rfl) (by kernel_rfl)
theorem GM_of_shape {W : World} (h : W.ShapedOpen Tryd.prog) : GM W := by
  obtain ⟨m, hm⟩ := cell_of_shapedOpen_int (P := Tryd.prog) (g := 0) (t := 3) (zero := #[.int .i64 0]) h (of_decide_eq_true (by kernel_rfl)) (by kernel_rfl) rfl (by kernel_rfl) (by kernel_rfl) Tryd.underlying3
  exact ⟨block_lt_of_cell hm, m, hm⟩
section
variable {H : Type} {enc : TypeId × Value → H} {W : World} {b0 : Nat} {v : Value} {d : DataW H} {p : List MemPlace}
theorem cS : Tryd.prog.cellsOf 9 = 1 := by kernel_rfl
theorem cB : Tryd.prog.cellsOf 4 = 1 := by kernel_rfl
theorem cI : Tryd.prog.cellsOf 3 = 1 := by kernel_rfl
theorem c5c : Tryd.prog.cellsOf 23 = 5 := by kernel_rfl
theorem c9c : Tryd.prog.cellsOf 32 = 9 := by kernel_rfl
theorem one_str {base : Nat} {sp : Nat → Bool} {hd : Bool} {n : Nat} {x : Value} {y : DataW H × List MemPlace} (h : DataW.trod enc Tryd.prog W base sp hd n 9 [x] = some y) : ∃ s : ByteArray, x = .string s ∧ y.1 = .lit (.string s.data.toList) := by
  obtain ⟨s, hc, hx, _⟩ := DataW.trod_string Tryd.underlying9 h
  exact ⟨s, by simpa using hc, by rw [hx]⟩
theorem one_bool {base : Nat} {sp : Nat → Bool} {hd : Bool} {n : Nat} {x : Value} {y : DataW H × List MemPlace} (h : DataW.trod enc Tryd.prog W base sp hd n 4 [x] = some y) : ∃ s : Bool, x = .bool s := by
  obtain ⟨s, hc, _⟩ := DataW.trod_bool Tryd.underlying4 h
  exact ⟨s, by simpa using hc⟩
set_option linter.constructorNameAsVariable false
set_option maxRecDepth 100000 in
theorem five {α : Type} {l : List α} (h : l.length = 5) : ∃ a b c d e, l = [a, b, c, d, e] := by
  match l, h with
  | [a, b, c, d, e], _ => exact ⟨a, b, c, d, e, rfl⟩
theorem bulk_str (s : ByteArray) : Rows.uptoBulk (DataW.lit (H := H) (.string s.data.toList)) = s.size + 1 := by
  simp [Rows.uptoBulk]
set_option maxRecDepth 100000 in
/-- A challenge, opened. -/
theorem ch_open (hv : Value.okWide Tryd.prog W .any b0 23 v) (h : DataW.Trod enc Tryd.prog W 0 (fun _ => true) true 23 v d p) :
    ∃ (rs ns os : ByteArray) (i s : Bool), v = .agg #[.string rs, .string ns, .string os, .bool i, .bool s] ∧ rs.size + ns.size + os.size ≤ Rows.uptoBulk d := by
  obtain ⟨cs, rfl, hsz⟩ := okWide_struct Tryd.underlying23 hv
  obtain ⟨fuel, hf⟩ := h
  obtain ⟨xs, n, _, hx, hl, hlen, hfld⟩ := DataW.trod_struct Tryd.underlying23 hf
  rw [c5c] at hl
  obtain ⟨x0, x1, x2, x3, x4, hL⟩ := five hl
  obtain ⟨y0, y1, y2, y3, y4, rfl⟩ := five (show xs.length = 5 from hlen)
  have e0 : DataW.trod enc Tryd.prog W 0 (fun _ => true) true n 9 (((Value.agg cs).cells.toList.drop 0).take (Tryd.prog.cellsOf 9)) = some y0 := hfld 0 _ rfl
  have e1 : DataW.trod enc Tryd.prog W 0 (fun _ => true) true n 9 (((Value.agg cs).cells.toList.drop 1).take (Tryd.prog.cellsOf 9)) = some y1 := hfld 1 _ rfl
  have e2 : DataW.trod enc Tryd.prog W 0 (fun _ => true) true n 9 (((Value.agg cs).cells.toList.drop 2).take (Tryd.prog.cellsOf 9)) = some y2 := hfld 2 _ rfl
  have e3 : DataW.trod enc Tryd.prog W 0 (fun _ => true) true n 4 (((Value.agg cs).cells.toList.drop 3).take (Tryd.prog.cellsOf 4)) = some y3 := hfld 3 _ rfl
  have e4 : DataW.trod enc Tryd.prog W 0 (fun _ => true) true n 4 (((Value.agg cs).cells.toList.drop 4).take (Tryd.prog.cellsOf 4)) = some y4 := hfld 4 _ rfl
  rw [hL, cS] at e0 e1 e2
  rw [hL, cB] at e3 e4
  obtain ⟨a, rfl, z0⟩ := one_str (x := x0) (y := y0) e0
  obtain ⟨b, rfl, z1⟩ := one_str (x := x1) (y := y1) e1
  obtain ⟨c, rfl, z2⟩ := one_str (x := x2) (y := y2) e2
  obtain ⟨i, rfl⟩ := one_bool (x := x3) (y := y3) e3
  obtain ⟨s, rfl⟩ := one_bool (x := x4) (y := y4) e4
  refine ⟨a, b, c, i, s, ?_, ?_⟩
  · congr 1
    apply Array.toList_inj.1
    exact hL
  · rw [Prod.mk.injEq] at hx
    rw [hx.1]
    simp only [List.map_cons, List.map_nil, Rows.uptoBulk, Rows.uptoBulkAll, z0, z1, z2]
    simp
    omega
end
section
variable {H : Type} {enc : TypeId × Value → H} {W : World} {b0 : Nat} {v : Value} {d : DataW H} {p : List MemPlace}
theorem one_int {base : Nat} {sp : Nat → Bool} {hd : Bool} {n : Nat} {x : Value} {y : DataW H × List MemPlace} (h : DataW.trod enc Tryd.prog W base sp hd n 3 [x] = some y) : ∃ k : Int, x = .int .i64 k := by
  obtain ⟨s, hc, _⟩ := DataW.trod_int Tryd.underlying3 h
  exact ⟨s, by simpa using hc⟩
set_option linter.constructorNameAsVariable false
set_option maxRecDepth 100000 in
theorem nine9 {α : Type} {l : List α} (h : l.length = 9) : ∃ a b c d e f g i j, l = [a, b, c, d, e, f, g, i, j] := by
  match l, h with
  | [a, b, c, d, e, f, g, i, j], _ => exact ⟨a, b, c, d, e, f, g, i, j, rfl⟩
set_option maxRecDepth 100000 in
theorem cr_open (hv : Value.okWide Tryd.prog W .any b0 32 v) (h : DataW.Trod enc Tryd.prog W 0 (fun _ => true) true 32 v d p) :
    ∃ (us rs ns is ps cs os : ByteArray) (k : Int) (g : Bool), v = .agg #[.string us, .string rs, .string ns, .string is, .string ps, .string cs, .string os, .int .i64 k, .bool g] ∧ us.size + rs.size + ns.size + is.size + ps.size + cs.size + os.size ≤ Rows.uptoBulk d := by
  obtain ⟨cs, rfl, hsz⟩ := okWide_struct Tryd.underlying32 hv
  obtain ⟨fuel, hf⟩ := h
  obtain ⟨xs, n, _, hx, hl, hlen, hfld⟩ := DataW.trod_struct Tryd.underlying32 hf
  rw [c9c] at hl
  obtain ⟨x0, x1, x2, x3, x4, x5, x6, x7, x8, hL⟩ := nine9 hl
  obtain ⟨y0, y1, y2, y3, y4, y5, y6, y7, y8, rfl⟩ := nine9 (show xs.length = 9 from hlen)
  have e0 : DataW.trod enc Tryd.prog W 0 (fun _ => true) true n 9 (((Value.agg cs).cells.toList.drop 0).take (Tryd.prog.cellsOf 9)) = some y0 := hfld 0 _ rfl
  have e1 : DataW.trod enc Tryd.prog W 0 (fun _ => true) true n 9 (((Value.agg cs).cells.toList.drop 1).take (Tryd.prog.cellsOf 9)) = some y1 := hfld 1 _ rfl
  have e2 : DataW.trod enc Tryd.prog W 0 (fun _ => true) true n 9 (((Value.agg cs).cells.toList.drop 2).take (Tryd.prog.cellsOf 9)) = some y2 := hfld 2 _ rfl
  have e3 : DataW.trod enc Tryd.prog W 0 (fun _ => true) true n 9 (((Value.agg cs).cells.toList.drop 3).take (Tryd.prog.cellsOf 9)) = some y3 := hfld 3 _ rfl
  have e4 : DataW.trod enc Tryd.prog W 0 (fun _ => true) true n 9 (((Value.agg cs).cells.toList.drop 4).take (Tryd.prog.cellsOf 9)) = some y4 := hfld 4 _ rfl
  have e5 : DataW.trod enc Tryd.prog W 0 (fun _ => true) true n 9 (((Value.agg cs).cells.toList.drop 5).take (Tryd.prog.cellsOf 9)) = some y5 := hfld 5 _ rfl
  have e6 : DataW.trod enc Tryd.prog W 0 (fun _ => true) true n 9 (((Value.agg cs).cells.toList.drop 6).take (Tryd.prog.cellsOf 9)) = some y6 := hfld 6 _ rfl
  have e7 : DataW.trod enc Tryd.prog W 0 (fun _ => true) true n 3 (((Value.agg cs).cells.toList.drop 7).take (Tryd.prog.cellsOf 3)) = some y7 := hfld 7 _ rfl
  have e8 : DataW.trod enc Tryd.prog W 0 (fun _ => true) true n 4 (((Value.agg cs).cells.toList.drop 8).take (Tryd.prog.cellsOf 4)) = some y8 := hfld 8 _ rfl
  rw [hL, cS] at e0 e1 e2 e3 e4 e5 e6
  rw [hL, cI] at e7
  rw [hL, cB] at e8
  obtain ⟨a0, rfl, z0⟩ := one_str (x := x0) (y := y0) e0
  obtain ⟨a1, rfl, z1⟩ := one_str (x := x1) (y := y1) e1
  obtain ⟨a2, rfl, z2⟩ := one_str (x := x2) (y := y2) e2
  obtain ⟨a3, rfl, z3⟩ := one_str (x := x3) (y := y3) e3
  obtain ⟨a4, rfl, z4⟩ := one_str (x := x4) (y := y4) e4
  obtain ⟨a5, rfl, z5⟩ := one_str (x := x5) (y := y5) e5
  obtain ⟨a6, rfl, z6⟩ := one_str (x := x6) (y := y6) e6
  obtain ⟨a7, rfl⟩ := one_int (x := x7) (y := y7) e7
  obtain ⟨a8, rfl⟩ := one_bool (x := x8) (y := y8) e8
  refine ⟨a0, a1, a2, a3, a4, a5, a6, a7, a8, ?_, ?_⟩
  · congr 1
    apply Array.toList_inj.1
    exact hL
  · rw [Prod.mk.injEq] at hx
    rw [hx.1]
    simp only [List.map_cons, List.map_nil, Rows.uptoBulk, Rows.uptoBulkAll, z0, z1, z2, z3, z4, z5, z6]
    simp
    omega
end
end Go.Proofs.YtfhbpgickkibmaaDoor
