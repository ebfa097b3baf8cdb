/- Desks opened: guards, nonces, accounts. -/
import Derived.Test.YtfhbpgickkibmaaGreatDoorYc
import Derived.Test.YtfhbpgickkibmaaGreatDoorRc
namespace Go.Proofs.YtfhbpgickkibmaaGreatDoor
open Go.ChangeShapes Go.WideShapes Go.ChangeAt Go.RowKit
open Go.ChangeMaps (open_string shut_string)

section
variable {H : Type} {enc : TypeId × Value → H} {W : World} {b0 : Nat} {v : Value} {d : DataW H} {p : List MemPlace}
theorem cAc2 : Tryz.prog.cellsOf 54 = 2 := by kernel_rfl
theorem cNc3 : Tryz.prog.cellsOf 76 = 3 := by kernel_rfl
theorem cNs1 : Tryz.prog.cellsOf 47 = 1 := by kernel_rfl
theorem cAs1 : Tryz.prog.cellsOf 50 = 1 := by kernel_rfl
theorem c5g : Tryz.prog.cellsOf 49 = 5 := by kernel_rfl
theorem c7d : Tryz.prog.cellsOf 52 = 7 := by kernel_rfl
theorem accts_trod {fuel : Nat} {base : Nat} {sp : Nat → Bool} {hd : Bool} {v : Value} {y : DataW H × List MemPlace} (hsp : ∀ b, sp b = true) (h : DataW.trod enc Tryz.prog W base sp hd fuel 50 [v] = some y) :
    ∃ (A : Option Addr) (n c : Nat) (l : List (ByteArray × ByteArray)), v = .slice A n c ∧ l.length = n ∧ Rds W W.heap.size A (hds l) ∧ n ≤ Rows.uptoBulk y.1 ∧ ∀ h ∈ l, h.1.size ≤ Rows.uptoBulk y.1 ∧ h.2.size ≤ Rows.uptoBulk y.1 := by
  rcases open_slice_fields Tryz.underlying50 Tryz.underlying54 (by kernel_rfl) cAc2 h with ⟨hcs, _⟩ | ⟨a, len, cap, m, D, Pl, hcs, _, hl, hm, hmm, hx, hi⟩
  · simp at hcs
    exact ⟨none, 0, 0, [], hcs, rfl, fun h => absurd h (by simp [hds]), Nat.zero_le _, fun h hh => absurd hh (by simp)⟩
  · simp at hcs
    subst hcs
    rw [if_pos (hsp _)] at hmm
    subst hmm
    have key : ∀ i, i < len → ∃ e : ByteArray × ByteArray, W.cell? (a.add (i * 2)) = some (.string e.1) ∧ W.cell? (a.add (i * 2 + 1)) = some (.string e.2) ∧ e.1.size + e.2.size + 3 = Rows.uptoBulk (D i) := by
      intro i hin
      obtain ⟨ys, n', hD, _, hyl, hf⟩ := hi i (by omega)
      obtain ⟨v0, y0, c0, g0, t0⟩ := hf 0 _ rfl
      obtain ⟨v1, y1, c1, g1, t1⟩ := hf 1 _ rfl
      obtain ⟨s0, rfl, z0⟩ := one_str t0
      obtain ⟨s1, rfl, z1⟩ := one_str t1
      refine ⟨(s0, s1), c0, c1, ?_⟩
      obtain ⟨p0, p1, rfl⟩ : ∃ p0 p1, ys = [p0, p1] := by
        match ys, hyl with
        | [p0, p1], _ => exact ⟨p0, p1, rfl⟩
      obtain rfl : p0 = y0 := by simpa using g0
      obtain rfl : p1 = y1 := by simpa using g1
      rw [hD]
      simp only [List.map_cons, List.map_nil, Rows.uptoBulk, Rows.uptoBulkAll, z0, z1]
      simp
      omega
    obtain ⟨l, hll, hr⟩ := list_of len key
    have hy : Rows.uptoBulk y.1 = Rows.uptoBulkAll ((List.range len).map D) + Rows.uptoBulkAll ((List.range (m - len)).map fun j => D (len + j)) + 1 := by rw [hx]; rfl
    have hd : ∀ d ∈ (List.range len).map D, 1 ≤ Rows.uptoBulk d := fun d hd => by
      obtain ⟨i, hi1, rfl⟩ := List.mem_map.1 hd
      obtain ⟨e, _, _, h3⟩ := key i (by simpa using hi1)
      omega
    have hn := bulk_len hd
    rw [List.length_map, List.length_range] at hn
    refine ⟨some a, len, m, l, rfl, hll, fun h0 => ?_, by omega, fun h hh => ?_⟩
    · rw [hds_len, hll] at h0
      obtain ⟨e, c0, _⟩ := key 0 (by omega)
      obtain ⟨b, o, sp'⟩ := a
      have hsp' : sp' = none := by
        cases sp' with
        | none => rfl
        | some s => simp [Addr.add, World.cell?] at c0; split at c0 <;> simp at c0
      subst hsp'
      refine ⟨b, o, rfl, by simpa [Addr.add] using World.block_lt_of_cell? W _ c0, fun j u hu => ?_⟩
      have hj := (List.getElem?_eq_some_iff.1 hu).1
      rw [hds_len, hll] at hj
      obtain ⟨q, hq⟩ : ∃ q, l[j / 2]? = some q := ⟨_, List.getElem?_eq_getElem (by omega)⟩
      obtain ⟨q0, q1, _⟩ := hr (j / 2) q hq
      rw [Addr.add_mid] at q0 q1
      rcases Nat.mod_two_eq_zero_or_one j with hj2 | hj2
      · have h4 := hds_at hq 0 _ rfl
        rw [show j / 2 * 2 + 0 = j by omega, hu] at h4
        cases h4
        rwa [show o + j / 2 * 2 = o + j by omega] at q0
      · have h4 := hds_at hq 1 _ rfl
        rw [show j / 2 * 2 + 1 = j by omega, hu] at h4
        cases h4
        rwa [show o + (j / 2 * 2 + 1) = o + j by omega] at q1
    · obtain ⟨i, hi1⟩ := List.mem_iff_getElem?.1 hh
      obtain ⟨_, _, h3⟩ := hr i h hi1
      have hi2 : i < len := by rw [← hll]; exact (List.getElem?_eq_some_iff.1 hi1).1
      have h4 := bulk_mem (List.mem_map.2 ⟨i, by simpa using hi2, rfl⟩ : D i ∈ (List.range len).map D)
      exact ⟨by omega, by omega⟩
theorem ncs_trod {fuel : Nat} {base : Nat} {sp : Nat → Bool} {hd : Bool} {v : Value} {y : DataW H × List MemPlace} (hsp : ∀ b, sp b = true) (h : DataW.trod enc Tryz.prog W base sp hd fuel 47 [v] = some y) :
    ∃ (A : Option Addr) (n c : Nat) (l : List Nce), v = .slice A n c ∧ l.length = n ∧ Rds W W.heap.size A (ncs l) ∧ n ≤ Rows.uptoBulk y.1 ∧ (A = none → n = 0 ∧ c = 0) := by
  rcases open_slice_fields Tryz.underlying47 Tryz.underlying76 (by kernel_rfl) cNc3 h with ⟨hcs, _⟩ | ⟨a, len, cap, m, D, Pl, hcs, _, hl, hm, hmm, hx, hi⟩
  · simp at hcs
    exact ⟨none, 0, 0, [], hcs, rfl, fun h => absurd h (by simp [ncs]), Nat.zero_le _, fun _ => ⟨rfl, rfl⟩⟩
  · simp at hcs
    subst hcs
    rw [if_pos (hsp _)] at hmm
    subst hmm
    have key : ∀ i, i < len → ∃ e : Nce, W.cell? (a.add (i * 3)) = some (.string e.v) ∧ W.cell? (a.add (i * 3 + 1)) = some (.int .i64 e.a) ∧ W.cell? (a.add (i * 3 + 2)) = some (.int .i64 e.k) ∧ 1 ≤ Rows.uptoBulk (D i) := by
      intro i hin
      obtain ⟨ys, n', hD, _, hyl, hf⟩ := hi i (by omega)
      obtain ⟨v0, y0, c0, g0, t0⟩ := hf 0 _ rfl
      obtain ⟨v1, y1, c1, g1, t1⟩ := hf 1 _ rfl
      obtain ⟨v2, y2, c2, g2, t2⟩ := hf 2 _ rfl
      obtain ⟨s0, rfl, z0⟩ := one_str t0
      obtain ⟨s1, rfl⟩ := one_int t1
      obtain ⟨s2, rfl⟩ := one_int t2
      refine ⟨⟨s0, s1, s2⟩, c0, c1, c2, ?_⟩
      rw [hD]
      simp only [Rows.uptoBulk]
      omega
    obtain ⟨l, hll, hr⟩ := list_of len key
    have hy : Rows.uptoBulk y.1 = Rows.uptoBulkAll ((List.range len).map D) + Rows.uptoBulkAll ((List.range (m - len)).map fun j => D (len + j)) + 1 := by rw [hx]; rfl
    have hd : ∀ d ∈ (List.range len).map D, 1 ≤ Rows.uptoBulk d := fun d hd => by
      obtain ⟨i, hi1, rfl⟩ := List.mem_map.1 hd
      obtain ⟨e, _, _, _, h3⟩ := key i (by simpa using hi1)
      exact h3
    have hn := bulk_len hd
    rw [List.length_map, List.length_range] at hn
    refine ⟨some a, len, m, l, rfl, hll, fun h0 => ?_, by omega, fun h => by cases h⟩
    rw [ncs_len, hll] at h0
    obtain ⟨e, c0, _⟩ := key 0 (by omega)
    obtain ⟨b, o, sp'⟩ := a
    have hsp' : sp' = none := by
      cases sp' with
      | none => rfl
      | some s => simp [Addr.add, World.cell?] at c0; split at c0 <;> simp at c0
    subst hsp'
    refine ⟨b, o, rfl, by simpa [Addr.add] using World.block_lt_of_cell? W _ c0, fun j u hu => ?_⟩
    have hj := (List.getElem?_eq_some_iff.1 hu).1
    rw [ncs_len, hll] at hj
    obtain ⟨q, hq⟩ : ∃ q, l[j / 3]? = some q := ⟨_, List.getElem?_eq_getElem (by omega)⟩
    obtain ⟨q0, q1, q2, _⟩ := hr (j / 3) q hq
    rw [Addr.add_mid] at q0 q1 q2
    rcases (show j % 3 = 0 ∨ j % 3 = 1 ∨ j % 3 = 2 by omega) with hj2 | hj2 | hj2
    · have h4 := ncs_at hq 0 _ rfl
      rw [show j / 3 * 3 + 0 = j by omega, hu] at h4
      cases h4
      rwa [show o + j / 3 * 3 = o + j by omega] at q0
    · have h4 := ncs_at hq 1 _ rfl
      rw [show j / 3 * 3 + 1 = j by omega, hu] at h4
      cases h4
      rwa [show o + (j / 3 * 3 + 1) = o + j by omega] at q1
    · have h4 := ncs_at hq 2 _ rfl
      rw [show j / 3 * 3 + 2 = j by omega, hu] at h4
      cases h4
      rwa [show o + (j / 3 * 3 + 2) = o + j by omega] at q2
set_option maxRecDepth 100000 in
theorem guard_trod {fuel base : Nat} {sp : Nat → Bool} {hd : Bool} {cs : List Value} {x : DataW H × List MemPlace} (hsp : ∀ b, sp b = true) (h : DataW.trod enc Tryz.prog W base sp hd fuel 49 cs = some x) :
    ∃ (re ke : ByteArray) (life iss : Int) (A : Option Addr) (n c : Nat) (l : List Nce), cs = [.string re, .string ke, .int .i64 life, .int .i64 iss, .slice A n c] ∧ re.size ≤ Rows.uptoBulk x.1 ∧ ke.size ≤ Rows.uptoBulk x.1 ∧ l.length = n ∧ Rds W W.heap.size A (ncs l) ∧ n ≤ Rows.uptoBulk x.1 ∧ (A = none → n = 0 ∧ c = 0) := by
  obtain ⟨xs, n, _, hx, hl, hlen, hfld⟩ := DataW.trod_struct Tryz.underlying49 h
  rw [c5g] at hl
  obtain ⟨x0, x1, x2, x3, x4, rfl⟩ := fiveN hl
  obtain ⟨y0, y1, y2, y3, y4, rfl⟩ := fiveN (show xs.length = 5 from hlen)
  have e0 : DataW.trod enc Tryz.prog W base sp hd n 9 (([x0, x1, x2, x3, x4].drop 0).take (Tryz.prog.cellsOf 9)) = some y0 := hfld 0 _ rfl
  rw [cS] at e0
  have e1 : DataW.trod enc Tryz.prog W base sp hd n 9 (([x0, x1, x2, x3, x4].drop 1).take (Tryz.prog.cellsOf 9)) = some y1 := hfld 1 _ rfl
  rw [cS] at e1
  have e2 : DataW.trod enc Tryz.prog W base sp hd n 3 (([x0, x1, x2, x3, x4].drop 2).take (Tryz.prog.cellsOf 3)) = some y2 := hfld 2 _ rfl
  rw [cI] at e2
  have e3 : DataW.trod enc Tryz.prog W base sp hd n 3 (([x0, x1, x2, x3, x4].drop 3).take (Tryz.prog.cellsOf 3)) = some y3 := hfld 3 _ rfl
  rw [cI] at e3
  have e4 : DataW.trod enc Tryz.prog W base sp hd n 47 (([x0, x1, x2, x3, x4].drop 4).take (Tryz.prog.cellsOf 47)) = some y4 := hfld 4 _ rfl
  rw [cNs1] at e4
  obtain ⟨re, rfl, z0⟩ := one_str (x := x0) (y := y0) e0
  obtain ⟨ke, rfl, z1⟩ := one_str (x := x1) (y := y1) e1
  obtain ⟨life, rfl⟩ := one_int (x := x2) (y := y2) e2
  obtain ⟨iss, rfl⟩ := one_int (x := x3) (y := y3) e3
  obtain ⟨A, m, c, l, rfl, u0, u1, u2, u3⟩ := ncs_trod (v := x4) (y := y4) hsp e4
  have hb : Rows.uptoBulk x.1 = Rows.uptoBulk y0.1 + Rows.uptoBulk y1.1 + Rows.uptoBulk y2.1 + Rows.uptoBulk y3.1 + Rows.uptoBulk y4.1 + 1 := by
    rw [hx]
    simp only [List.map_cons, List.map_nil, Rows.uptoBulk, Rows.uptoBulkAll]
    omega
  have k0 := bulk_str (H := H) re
  rw [← z0] at k0
  have k1 := bulk_str (H := H) ke
  rw [← z1] at k1
  exact ⟨re, ke, life, iss, A, m, c, l, rfl, by omega, by omega, u0, u1, by omega, u3⟩
theorem sevenN {α : Type} {l : List α} (h : l.length = 7) : ∃ x0 x1 x2 x3 x4 x5 x6, l = [x0, x1, x2, x3, x4, x5, x6] := by
  match l, h with
  | [x0, x1, x2, x3, x4, x5, x6], _ => exact ⟨x0, x1, x2, x3, x4, x5, x6, rfl⟩
set_option linter.constructorNameAsVariable false
set_option maxRecDepth 100000 in
theorem desk_open (hv : Value.okWide Tryz.prog W .any b0 52 v) (h : DataW.Trod enc Tryz.prog W 0 (fun _ => true) true 52 v d p) :
    ∃ (re ke : ByteArray) (life iss now : Int) (A : Option Addr) (n c : Nat) (l : List Nce) (U : Option Addr) (un uc : Nat) (us : List (ByteArray × ByteArray)), v = .agg #[.string re, .string ke, .int .i64 life, .int .i64 iss, .slice A n c, .slice U un uc, .int .i64 now] ∧
      re.size ≤ Rows.uptoBulk d ∧ ke.size ≤ Rows.uptoBulk d ∧ l.length = n ∧ Rds W W.heap.size A (ncs l) ∧ n ≤ Rows.uptoBulk d ∧ (A = none → n = 0 ∧ c = 0) ∧ us.length = un ∧ Rds W W.heap.size U (hds us) ∧ un ≤ Rows.uptoBulk d ∧ (∀ h ∈ us, h.2.size ≤ Rows.uptoBulk d) := by
  obtain ⟨cs, rfl, hsz⟩ := okWide_struct Tryz.underlying52 hv
  obtain ⟨fuel, hf⟩ := h
  obtain ⟨xs, n, _, hx, hl, hlen, hfld⟩ := DataW.trod_struct Tryz.underlying52 hf
  rw [c7d] at hl
  obtain ⟨x0, x1, x2, x3, x4, x5, x6, hL⟩ := sevenN hl
  obtain ⟨y0, y1, y2, rfl⟩ := threeN (show xs.length = 3 from hlen)
  have e0 : DataW.trod enc Tryz.prog W 0 (fun _ => true) true n 49 (((Value.agg cs).cells.toList.drop 0).take (Tryz.prog.cellsOf 49)) = some y0 := hfld 0 _ rfl
  have e1 : DataW.trod enc Tryz.prog W 0 (fun _ => true) true n 50 (((Value.agg cs).cells.toList.drop 5).take (Tryz.prog.cellsOf 50)) = some y1 := hfld 1 _ rfl
  have e2 : DataW.trod enc Tryz.prog W 0 (fun _ => true) true n 3 (((Value.agg cs).cells.toList.drop 6).take (Tryz.prog.cellsOf 3)) = some y2 := hfld 2 _ rfl
  rw [hL, c5g] at e0
  rw [hL, cAs1] at e1
  rw [hL, cI] at e2
  obtain ⟨re, ke, life, iss, A, m, c, l, q0, h0, h1, h2, h3, h4, h5⟩ := guard_trod (cs := [x0, x1, x2, x3, x4]) (fun _ => rfl) e0
  obtain ⟨U, un, uc, us, rfl, g1, g2, g3, g4⟩ := accts_trod (v := x5) (y := y1) (fun _ => rfl) e1
  obtain ⟨now, rfl⟩ := one_int (x := x6) (y := y2) e2
  have hb : Rows.uptoBulk d = Rows.uptoBulk y0.1 + Rows.uptoBulk y1.1 + Rows.uptoBulk y2.1 + 1 := by
    rw [Prod.mk.injEq] at hx
    rw [hx.1]
    simp only [List.map_cons, List.map_nil, Rows.uptoBulk, Rows.uptoBulkAll]
    omega
  simp only [List.cons.injEq, and_true] at q0
  obtain ⟨rfl, rfl, rfl, rfl, rfl⟩ := q0
  refine ⟨re, ke, life, iss, now, A, m, c, l, U, un, uc, us, ?_, by omega, by omega, h2, h3, by omega, h5, g1, g2, by omega, fun h hh => by have := (g4 h hh).2; omega⟩
  congr 1
  apply Array.toList_inj.1
  exact hL
end
end Go.Proofs.YtfhbpgickkibmaaGreatDoor
