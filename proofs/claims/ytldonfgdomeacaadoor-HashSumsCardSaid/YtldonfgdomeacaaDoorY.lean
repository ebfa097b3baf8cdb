/- What the rows of this seat share: the arguments opened, the constants where the program lays them. -/
import Derived.Test.YtldonfgdomeacaaDoorJ
import Derived.Test.YtldonfgdomeacaaDoorZb
import Derived.Test.YtldonfgdomeacaaDoorRows
import Derived.WalkKit
import Derived.ProofKit
import Derived.LaidMore
import Derived.Lib.LaidTab
import Derived.OpenShut
import Derived.ShutString
import Derived.Stop.Joined
namespace Go.Proofs.YtldonfgdomeacaaDoor
open Go.ChangeShapes Go.WideShapes Go.ChangeAt Go.RowKit
open Go.ChangeMaps (open_string shut_string)

theorem own : ownKnob Tryd.prog.godebug = none := by kernel_rfl
theorem laidOut : laidOutB Tryd.prog = true := by kernel_rfl
theorem readable : ∀ t ∈ [22, 9, 32, 5], Tryd.prog.readableRec t = true ∧ t < Tryd.prog.types.size := by
  intro t ht
  simp only [List.mem_cons, List.not_mem_nil, or_false] at ht
  rcases ht with rfl | rfl | rfl | rfl
  all_goals exact ⟨by kernel_rfl, of_decide_eq_true (by kernel_rfl)⟩
def LD : List (String × DataW Unit) := [("dialtone/hash.constants", Rows.laid_dialtone_hash_constants)]
theorem door_met (os : Os) (args : Array Value) : laidMetH Tryd.prog LD ((World.doorLaid Tryd.prog 400 os).forCall (fun _ _ => 0) ⟨#[], args, []⟩).memory :=
  laidMetH_of_parts3 (fuel := 8) (laidMet_of_run' 8 (by kernel_rfl) (by kernel_rfl)) (by kernel_rfl) (by kernel_rfl)
theorem gConst : Tryd.prog.globalNamed "dialtone/hash.constants" = some 0 := by kernel_rfl
theorem tConst : (Tryd.prog.globals[0]?).map (·.type) = some 51 := by kernel_rfl
theorem c27 : Tryd.prog.cellsOf 27 = 1 := by kernel_rfl
theorem c51 : Tryd.prog.cellsOf 51 = 64 := by kernel_rfl
theorem KC_of_laid {W : World} (h : laidMetH Tryd.prog LD W) : KC W := by
  rw [MakeChecks.laidMetH_plain _ _ _ (by kernel_rfl)] at h
  have h1 : laidMet Tryd.prog (("dialtone/hash.constants", Lib.tabData .u32 Ks) :: []) W := h
  have h2 := Lib.tabIs_of_head gConst tConst Tryd.underlying51 Tryd.underlying27 c27 c51 h1
  have h3 := fun i hi => h2.cell gConst i hi
  exact ⟨block_lt_of_cell (h3 0 (by decide)), fun i hi => h3 i hi⟩
section
variable {H : Type} {enc : TypeId × Value → H} {W : World} {b0 : Nat} {v : Value} {d : DataW H} {p : List MemPlace}
theorem c5 : Tryd.prog.cellsOf 5 = 1 := by kernel_rfl
/-- A slice of bytes, opened. -/
theorem bytes_open (hv : Value.okWide Tryd.prog W .any b0 22 v) (h : DataW.Trod enc Tryd.prog W 0 (fun _ => true) true 22 v d p) :
    ∃ (A : Option Addr) (n c : Nat) (bs : List Int), v = .slice A n c ∧ By bs ∧ bs.length = n ∧ n ≤ c ∧ Bs W W.heap.size A bs := by
  obtain ⟨A, n, c, rfl⟩ := okWide_slice Tryd.underlying22 hv
  obtain ⟨fuel, hf⟩ := h
  rcases open_ints Tryd.underlying22 Tryd.underlying5 c5 hf with ⟨h1, _⟩ | ⟨a, len, cap, zs, h1, _, h3, _, h5, _, h7, h8⟩
  · simp [Value.cells] at h1
    obtain ⟨rfl, rfl, rfl⟩ := h1
    exact ⟨none, 0, 0, [], rfl, fun x hx => absurd hx (by simp), rfl, Nat.le_refl _, fun h => absurd h (by simp)⟩
  · simp [Value.cells] at h1
    obtain ⟨rfl, rfl, rfl⟩ := h1
    rw [if_pos rfl] at h5
    have hl : (zs.take n).length = n := by rw [List.length_take]; omega
    refine ⟨some a, n, c, zs.take n, rfl, fun x hx => ?_, hl, h3, fun h0 => ?_⟩
    · have := h8 x (List.mem_of_mem_take hx)
      have := bounds_u8 this
      omega
    · refine ⟨a, rfl, ?_, fun j x hj => ?_⟩
      · have := block_lt_of_cell (h7 0 (by omega))
        rwa [add_block] at this
      · have hj' : j < n := by have := (List.getElem?_eq_some_iff.1 hj).1; omega
        rw [h7 j (by omega)]
        rw [List.getElem?_take, if_pos hj'] at hj
        rw [List.getD_eq_getElem?_getD, hj]; rfl
/-- An array of integers, opened. -/
theorem ints_array {P : Program} {w : World} {base : Nat} {sp : Nat → Bool} {held : Bool} {fuel : Nat} {t e : TypeId} {n : Nat} {k : IntKind} {cs : List Value} {x : DataW H × List MemPlace}
    (ht : P.underlying t = some (.array n e)) (he : P.underlying e = some (.int k)) (hce : P.cellsOf e = 1) (hct : P.cellsOf t = n) (h : DataW.trod enc P w base sp held fuel t cs = some x) :
    ∃ zs : List Int, zs.length = n ∧ cs = zs.map (Value.int k) ∧ ∀ z ∈ zs, (Lit.int k z).wf = true := by
  obtain ⟨xs, m, _, _, hl, hn, hel⟩ := DataW.trod_array ht h
  rw [hct] at hl
  have key : ∀ i, i < n → ∃ z, cs[i]? = some (.int k z) ∧ (Lit.int k z).wf = true := fun i hi => by
    have h1 := hel i hi
    rw [hce, Nat.mul_one, List.getElem?_eq_getElem (by omega)] at h1
    obtain ⟨z, hc, _, hw⟩ := DataW.trod_int he h1
    refine ⟨z, ?_, hw⟩
    have := congrArg (·[0]?) hc
    simpa [List.getElem?_take, List.getElem?_drop] using this
  have e1 : cs = (cs.map intOf).map (Value.int k) := by
    apply List.ext_getElem?
    intro i
    by_cases hi : i < n
    · obtain ⟨z, hz, _⟩ := key i hi
      simp [hz, intOf]
    · rw [List.getElem?_eq_none (by omega), List.getElem?_eq_none (by simp; omega)]
  refine ⟨cs.map intOf, by simpa using hl, e1, fun z hz => ?_⟩
  obtain ⟨v, hv, rfl⟩ := List.mem_map.1 hz
  obtain ⟨i, hi, rfl⟩ := List.getElem_of_mem hv
  obtain ⟨z, hz, hw⟩ := key i (by omega)
  rw [List.getElem?_eq_getElem hi] at hz
  rw [Option.some.inj hz]
  exact hw
theorem c28 : Tryd.prog.cellsOf 28 = 8 := by kernel_rfl
theorem c29 : Tryd.prog.cellsOf 29 = 1 := by kernel_rfl
theorem c30 : Tryd.prog.cellsOf 30 = 64 := by kernel_rfl
theorem c32 : Tryd.prog.cellsOf 32 = 73 := by kernel_rfl
theorem eight {l : List Int} (h : l.length = 8) : ∃ s : St, l = stL s := by
  match l, h with
  | [a, b, c, d, e, f, g, i], _ => exact ⟨⟨a, b, c, d, e, f, g, i⟩, rfl⟩
/-- A state, opened. -/
theorem state_open (hv : Value.okWide Tryd.prog W .any b0 32 v) (h : DataW.Trod enc Tryd.prog W 0 (fun _ => true) true 32 v d p) : ∃ s : HS, v = hsV s ∧ HSR s := by
  obtain ⟨cs, rfl, hsz⟩ := okWide_struct Tryd.underlying32 hv
  obtain ⟨fuel, hf⟩ := h
  obtain ⟨xs, n, _, _, hl, hlen, hfld⟩ := DataW.trod_struct Tryd.underlying32 hf
  have h3 : xs.length = 3 := hlen
  have e0 : DataW.trod enc Tryd.prog W 0 (fun _ => true) true n 28 (((Value.agg cs).cells.toList.drop 0).take (Tryd.prog.cellsOf 28)) = xs[0]? := hfld 0 _ rfl
  have e1 : DataW.trod enc Tryd.prog W 0 (fun _ => true) true n 29 (((Value.agg cs).cells.toList.drop 8).take (Tryd.prog.cellsOf 29)) = xs[1]? := hfld 1 _ rfl
  have e2 : DataW.trod enc Tryd.prog W 0 (fun _ => true) true n 30 (((Value.agg cs).cells.toList.drop 9).take (Tryd.prog.cellsOf 30)) = xs[2]? := hfld 2 _ rfl
  rw [List.getElem?_eq_getElem (by omega)] at e0 e1 e2
  rw [c28] at e0
  rw [c29] at e1
  rw [c30] at e2
  rw [c32] at hl hsz
  obtain ⟨z0, l0, q0, w0⟩ := ints_array Tryd.underlying28 Tryd.underlying27 c27 c28 e0
  obtain ⟨z1, q1, _, w1⟩ := DataW.trod_int Tryd.underlying29 e1
  obtain ⟨z2, l2, q2, w2⟩ := ints_array Tryd.underlying30 Tryd.underlying5 c5 c30 e2
  obtain ⟨s, rfl⟩ := eight l0
  have hall : (Value.agg cs).cells.toList = U32 (stL s) ++ ([Value.int .u64 z1] ++ U8 z2) := by
    have a0 := (List.take_append_drop 8 (Value.agg cs).cells.toList).symm
    have a1 := (List.take_append_drop 1 ((Value.agg cs).cells.toList.drop 8)).symm
    rw [List.drop_drop] at a1
    have a2 : ((Value.agg cs).cells.toList.drop 9).take 64 = (Value.agg cs).cells.toList.drop 9 := List.take_of_length_le (by rw [List.length_drop, hl]; decide)
    rw [a0, a1]
    simp only [List.drop_zero] at q0
    rw [q0, q1, show 8 + 1 = 9 from rfl, ← a2, q2]
    rfl
  refine ⟨⟨s, z1, z2⟩, ?_, ?_, ?_, ?_⟩
  · unfold hsV hsL
    rw [show (Value.agg cs).cells = cs from rfl] at hall
    congr 1
    apply Array.toList_inj.1
    rw [hall]
    rfl
  · have g : ∀ z ∈ stL s, 0 ≤ z ∧ z < 4294967296 := fun z hz => by
      have := bounds_u32 (w0 z hz)
      omega
    simp only [stL, List.forall_mem_cons] at g
    exact ⟨g.1, g.2.1, g.2.2.1, g.2.2.2.1, g.2.2.2.2.1, g.2.2.2.2.2.1, g.2.2.2.2.2.2.1, g.2.2.2.2.2.2.2.1⟩
  · have := bounds_u64 w1
    exact ⟨by dsimp only; omega, by dsimp only; omega⟩
  · exact ⟨l2, fun z hz => by
      have := bounds_u8 (w2 z hz)
      omega⟩
end
end Go.Proofs.YtldonfgdomeacaaDoor
