/- An address opened, with its user's size; two and three of them. -/
import Derived.Test.YthfonniieaiocaaGreatDoorYd
set_option linter.unusedVariables false
set_option linter.unusedSimpArgs false
namespace Go.Proofs.YthfonniieaiocaaGreatDoor
open Go.ChangeShapes Go.WideShapes Go.ChangeAt Go.RowKit
open Go.ChangeMaps (open_string shut_string)

section
variable {H : Type} {enc : TypeId × Value → H} {W : World} {b0 : Nat} {v : Value} {d : DataW H} {p : List MemPlace}
set_option maxRecDepth 100000 in
theorem uri_trod2 {fuel base : Nat} {sp : Nat → Bool} {hd : Bool} {cs : List Value} {x : DataW H × List MemPlace} (hsp : ∀ b, sp b = true) (h : DataW.trod enc Tryz.prog W base sp hd fuel 32 cs = some x) (hb : Rows.uptoBulk x.1 ≤ 1048576) :
    ∃ (u : Uri) (A1 A2 : Option Addr) (c1 c2 : Nat), cs = [.string (strOfNums u.sc), .string (strOfNums u.us), .string (strOfNums u.ho), .int .i64 u.po, .slice A1 u.ps.length c1, .slice A2 u.hs.length c2] ∧ UArg W u A1 A2 ∧ u.us.length ≤ 1048576 := by
  obtain ⟨xs, n, _, hx, hl, hlen, hfld⟩ := DataW.trod_struct Tryz.underlying32 h
  rw [c6u] at hl
  obtain ⟨x0, x1, x2, x3, x4, x5, rfl⟩ := sixN hl
  obtain ⟨y0, y1, y2, y3, y4, y5, rfl⟩ := sixN (show xs.length = 6 from hlen)
  have e0 : DataW.trod enc Tryz.prog W base sp hd n 9 (([x0, x1, x2, x3, x4, x5].drop 0).take (Tryz.prog.cellsOf 9)) = some y0 := hfld 0 _ rfl
  rw [cS] at e0
  have e1 : DataW.trod enc Tryz.prog W base sp hd n 9 (([x0, x1, x2, x3, x4, x5].drop 1).take (Tryz.prog.cellsOf 9)) = some y1 := hfld 1 _ rfl
  rw [cS] at e1
  have e2 : DataW.trod enc Tryz.prog W base sp hd n 9 (([x0, x1, x2, x3, x4, x5].drop 2).take (Tryz.prog.cellsOf 9)) = some y2 := hfld 2 _ rfl
  rw [cS] at e2
  have e3 : DataW.trod enc Tryz.prog W base sp hd n 3 (([x0, x1, x2, x3, x4, x5].drop 3).take (Tryz.prog.cellsOf 3)) = some y3 := hfld 3 _ rfl
  rw [cI] at e3
  have e4 : DataW.trod enc Tryz.prog W base sp hd n 30 (([x0, x1, x2, x3, x4, x5].drop 4).take (Tryz.prog.cellsOf 30)) = some y4 := hfld 4 _ rfl
  rw [cPs1] at e4
  have e5 : DataW.trod enc Tryz.prog W base sp hd n 30 (([x0, x1, x2, x3, x4, x5].drop 5).take (Tryz.prog.cellsOf 30)) = some y5 := hfld 5 _ rfl
  rw [cPs1] at e5
  obtain ⟨a0, rfl, z0⟩ := one_str (x := x0) (y := y0) e0
  obtain ⟨a1, rfl, z1⟩ := one_str (x := x1) (y := y1) e1
  obtain ⟨a2, rfl, z2⟩ := one_str (x := x2) (y := y2) e2
  obtain ⟨a3, rfl⟩ := one_int (x := x3) (y := y3) e3
  obtain ⟨A4, n4, c4, l4, rfl, u4, v4, w4, t4⟩ := pcs_trod (v := x4) (y := y4) hsp e4
  obtain ⟨A5, n5, c5, l5, rfl, u5, v5, w5, t5⟩ := pcs_trod (v := x5) (y := y5) hsp e5
  have hbb : Rows.uptoBulk x.1 = Rows.uptoBulk y0.1 + Rows.uptoBulk y1.1 + Rows.uptoBulk y2.1 + Rows.uptoBulk y3.1 + Rows.uptoBulk y4.1 + Rows.uptoBulk y5.1 + 1 := by
    rw [hx]
    simp only [List.map_cons, List.map_nil, Rows.uptoBulk, Rows.uptoBulkAll]
    omega
  have k0 := bulk_str (H := H) a0
  rw [← z0] at k0
  have k1 := bulk_str (H := H) a1
  rw [← z1] at k1
  have k2 := bulk_str (H := H) a2
  rw [← z2] at k2
  have P4 : ∀ p ∈ l4.map toPm, pmSz p := fun p hp => by
    obtain ⟨q, hq, rfl⟩ := List.mem_map.1 hp
    have := t4 q hq
    have := toPm_n q
    exact ⟨(toPm_by q).1, (toPm_by q).2, by omega, by omega⟩
  have P5 : ∀ p ∈ l5.map toPm, pmSz p := fun p hp => by
    obtain ⟨q, hq, rfl⟩ := List.mem_map.1 hp
    have := t5 q hq
    have := toPm_n q
    exact ⟨(toPm_by q).1, (toPm_by q).2, by omega, by omega⟩
  have m4 : (l4.map toPm).length = n4 := by rw [List.length_map, u4]
  have m5 : (l5.map toPm).length = n5 := by rw [List.length_map, u5]
  refine ⟨⟨byteL a0, byteL a1, byteL a2, a3, l4.map toPm, l5.map toPm⟩, A4, A5, c4, c5, ?_, ⟨⟨byteL_by _, byteL_by _, byteL_by _, fun p hp => ⟨(P4 p hp).1, (P4 p hp).2.1⟩, fun p hp => ⟨(P5 p hp).1, (P5 p hp).2.1⟩⟩, ?_, ?_, ?_, P4, P5, v4, v5, ?_, ?_⟩, ?_⟩
  · dsimp only
    rw [str_byteL, str_byteL, str_byteL, m4, m5]
  · show (byteL a0).length ≤ 4000000; rw [byteL_len]; omega
  · show (byteL a1).length ≤ 4000000; rw [byteL_len]; omega
  · show (byteL a2).length ≤ 4000000; rw [byteL_len]; omega
  · show (l4.map toPm).length ≤ 16000000; omega
  · show (l5.map toPm).length ≤ 16000000; omega
  · show (byteL a1).length ≤ 1048576; rw [byteL_len]; omega
set_option linter.constructorNameAsVariable false
set_option maxRecDepth 100000 in
theorem uri_open2 (hv : Value.okWide Tryz.prog W .any b0 32 v) (h : DataW.Trod enc Tryz.prog W 0 (fun _ => true) true 32 v d p) (hb : Rows.uptoBulk d ≤ 1048576) :
    ∃ (u : Uri) (A1 A2 : Option Addr) (c1 c2 : Nat), v = uS u A1 A2 c1 c2 ∧ UArg W u A1 A2 ∧ u.us.length ≤ 1048576 := by
  obtain ⟨cs, rfl, hsz⟩ := okWide_struct Tryz.underlying32 hv
  obtain ⟨fuel, hf⟩ := h
  obtain ⟨u, A1, A2, c1, c2, hL, hu⟩ := uri_trod2 (fun _ => rfl) hf hb
  refine ⟨u, A1, A2, c1, c2, ?_, hu⟩
  unfold uS
  congr 1
  apply Array.toList_inj.1
  exact hL
end
end Go.Proofs.YthfonniieaiocaaGreatDoor
