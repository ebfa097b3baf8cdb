/- What the rows of chapter 19 share: numbers of 16 bits opened. -/
import Derived.Test.YtcnkjgjimcddiaaGreatDoorYl
import Derived.Test.YtcnkjgjimcddiaaGreatDoorEl
namespace Go.Proofs.YtcnkjgjimcddiaaGreatDoor
open Go.ChangeShapes Go.WideShapes Go.ChangeAt Go.RowKit

section
variable {H : Type} {enc : TypeId × Value → H} {W : World} {b0 : Nat} {v : Value} {d : DataW H} {p : List MemPlace}
theorem cU16 : Tryz.prog.cellsOf 40 = 1 := by kernel_rfl
theorem wf_u16 {x : Int} (h : (Lit.int .u16 x).wf = true) : 0 ≤ x ∧ x ≤ 65535 := by
  have e1 : IntKind.u16.min = 0 := rfl
  have e2 : IntKind.u16.max = 65535 := rfl
  simp [Lit.wf] at h
  omega
theorem ds_trod {fuel : Nat} {base : Nat} {sp : Nat → Bool} {hd : Bool} {v : Value} {y : DataW H × List MemPlace} (hsp : ∀ b, sp b = true) (h : DataW.trod enc Tryz.prog W base sp hd fuel 42 [v] = some y) :
    ∃ (A : Option Addr) (n c : Nat) (xs : List Int), v = .slice A n c ∧ (∀ x ∈ xs, 0 ≤ x ∧ x ≤ 65535) ∧ xs.length = n ∧ DsW W A xs := by
  rcases open_ints Tryz.underlying42 Tryz.underlying40 cU16 h with ⟨h1, h2⟩ | ⟨a, len, cap, zs, h1, _, h3, _, h5, h6, h7, h8⟩
  · simp at h1
    subst h1
    exact ⟨none, 0, 0, [], rfl, fun x hx => absurd hx (by simp), rfl, fun h => absurd h (by simp)⟩
  · simp at h1
    subst h1
    rw [if_pos (hsp _)] at h5
    have hl : (zs.take len).length = len := by rw [List.length_take]; omega
    refine ⟨some a, len, cap, zs.take len, rfl, fun x hx => wf_u16 (h8 x (List.mem_of_mem_take hx)), hl, fun h0 => ?_⟩
    refine ⟨a, rfl, ?_, fun j x hj => ?_⟩
    · have := block_lt_of_cell (h7 0 (by omega))
      rwa [add_block] at this
    · have hj' : j < len := by have := (List.getElem?_eq_some_iff.1 hj).1; omega
      rw [h7 j (by omega)]
      rw [List.getElem?_take, if_pos hj'] at hj
      rw [List.getD_eq_getElem?_getD, hj]; rfl
set_option linter.constructorNameAsVariable false
set_option maxRecDepth 100000 in
theorem ds_open (hv : Value.okWide Tryz.prog W .any b0 42 v) (h : DataW.Trod enc Tryz.prog W 0 (fun _ => true) true 42 v d p) :
    ∃ (A : Option Addr) (n c : Nat) (xs : List Int), v = .slice A n c ∧ (∀ x ∈ xs, 0 ≤ x ∧ x ≤ 65535) ∧ xs.length = n ∧ DsW W A xs := by
  obtain ⟨A, n, c, rfl⟩ := okWide_slice Tryz.underlying42 hv
  obtain ⟨fuel, hf⟩ := h
  exact ds_trod (fun _ => rfl) hf
end
end Go.Proofs.YtcnkjgjimcddiaaGreatDoor
