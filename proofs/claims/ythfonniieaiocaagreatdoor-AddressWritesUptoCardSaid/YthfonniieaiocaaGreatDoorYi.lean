/- What the rows on addresses share: an address with its parameters, opened. And what stands behind it. -/
import Derived.Test.YthfonniieaiocaaGreatDoorYa
import Derived.Test.YthfonniieaiocaaGreatDoorWe
import Derived.Test.YthfonniieaiocaaGreatDoorUh
import Derived.Test.YthfonniieaiocaaGreatDoorTf
import Derived.Test.YthfonniieaiocaaGreatDoorTr
set_option linter.unusedVariables false
set_option linter.unusedSimpArgs false
set_option maxRecDepth 100000
namespace Go.Proofs.YthfonniieaiocaaGreatDoor
open Go.ChangeShapes Go.WideShapes Go.ChangeAt Go.RowKit
open Go.ChangeMaps (open_string shut_string)

theorem list_of {α : Type} {R : Nat → α → Prop} : ∀ n : Nat, (∀ i, i < n → ∃ e, R i e) → ∃ l : List α, l.length = n ∧ ∀ (i : Nat) (e : α), l[i]? = some e → R i e
  | 0, _ => ⟨[], rfl, fun i e h => by simp at h⟩
  | n + 1, h => by
    obtain ⟨l, hl, hr⟩ := list_of n fun i hi => h i (by omega)
    obtain ⟨e, he⟩ := h n (by omega)
    refine ⟨l ++ [e], by simp [hl], fun i x hx => ?_⟩
    rcases Nat.lt_or_ge i n with h1 | h1
    · rw [List.getElem?_append_left (by omega)] at hx; exact hr i x hx
    · have h2 : i < (l ++ [e]).length := (List.getElem?_eq_some_iff.1 hx).1
      obtain rfl : i = n := by simp at h2; omega
      rw [List.getElem?_append_right (by omega)] at hx
      obtain rfl : e = x := by simpa [hl] using hx
      exact he

section
open Go.Deep
variable {H : Type} {enc : TypeId × Value → H} {P : Program} {w : World} {base : Nat} {spare : Nat → Bool} {held : Bool}
theorem open_slice_fields {t e : TypeId} {fs : Array Field} {fuel : Nat} {cs : List Value} {x : DataW H × List MemPlace} (ht : P.underlying t = some (.slice e)) (he : P.underlying e = some (.struct fs))
    (hone : oneCellFields P fs = true) (hC : P.cellsOf e = fs.size) (h : DataW.trod enc P w base spare held fuel t cs = some x) :
    (cs = [.slice none 0 0] ∧ x = (.nil, [])) ∨
    ∃ (a : Addr) (len cap m : Nat) (D : Nat → DataW H) (Pl : Nat → List MemPlace), cs = [.slice (some a) len cap] ∧ base ≤ a.block ∧ len ≤ cap ∧ cap ≤ maxLen ∧ m = (if spare a.block then cap else len) ∧
      x = (.slice ((List.range len).map D) ((List.range (m - len)).map fun j => D (len + j)), MemPlace.row a (m * fs.size) ++ (List.range m).flatMap Pl) ∧
      ∀ i, i < m → ∃ (ys : List (DataW H × List MemPlace)) (n : Nat), D i = .agg (ys.map (·.1)) ∧ Pl i = ys.flatMap (·.2) ∧ ys.length = fs.size ∧
        ∀ (j : Nat) (f : Field), fs[j]? = some f → ∃ (v : Value) (y : DataW H × List MemPlace), w.cell? (a.add (i * fs.size + j)) = some v ∧ ys[j]? = some y ∧ DataW.trod enc P w base spare held n f.type [v] = some y := by
  rcases open_slice ht h with h0 | ⟨a, len, cap, m, n, D, Pl, hcs, hb, hl, hm, hmm, hx, hi⟩
  · exact .inl h0
  · refine .inr ⟨a, len, cap, m, D, Pl, hcs, hb, hl, hm, hmm, by rw [hC] at hx; exact hx, fun i him => ?_⟩
    obtain ⟨cs', hc, ht'⟩ := hi i him
    rw [hC] at hc
    obtain ⟨ys, n', hn', hy, hlen, hyl, hf⟩ := DataW.trod_struct he ht'
    obtain ⟨_, hcl, hat⟩ := World.cells?_some hc
    simp only [Prod.mk.injEq] at hy
    refine ⟨ys, n', hy.1, hy.2, hyl, fun j f hj => ?_⟩
    obtain ⟨ho, hk⟩ := hone_of hone j f hj
    have hjl : j < fs.size := (Array.getElem?_eq_some_iff.1 hj).1
    have hcell := hat j hjl
    have hv : cs'[j]? = some (cs'[j]'(by omega)) := List.getElem?_eq_getElem (by omega)
    have h1 := hf j f hj
    rw [ho, hk] at h1
    have hone' : (cs'.drop j).take 1 = [cs'[j]'(by omega)] := by
      rw [List.drop_eq_getElem_cons (by omega)]
      rfl
    rw [hone'] at h1
    have hys : ys[j]? = some (ys[j]'(by omega)) := List.getElem?_eq_getElem (by omega)
    refine ⟨_, _, ?_, hys, h1.trans hys⟩
    rw [← Go.Deep.add_add, hcell, hv]
end
section
variable {H : Type} {enc : TypeId × Value → H} {W : World} {b0 : Nat} {v : Value} {d : DataW H} {p : List MemPlace}
theorem one_str {base : Nat} {sp : Nat → Bool} {hd : Bool} {n : Nat} {x : Value} {y : DataW H × List MemPlace} (h : DataW.trod enc Tryz.prog W base sp hd n 9 [x] = some y) : ∃ s : ByteArray, x = .string s ∧ y.1 = .lit (.string s.data.toList) := by
  obtain ⟨s, hc, hx, _⟩ := DataW.trod_string Tryz.underlying9 h
  exact ⟨s, by simpa using hc, by rw [hx]⟩
theorem one_bool {base : Nat} {sp : Nat → Bool} {hd : Bool} {n : Nat} {x : Value} {y : DataW H × List MemPlace} (h : DataW.trod enc Tryz.prog W base sp hd n 4 [x] = some y) : ∃ s : Bool, x = .bool s := by
  obtain ⟨s, hc, _⟩ := DataW.trod_bool Tryz.underlying4 h
  exact ⟨s, by simpa using hc⟩
theorem one_int {base : Nat} {sp : Nat → Bool} {hd : Bool} {n : Nat} {x : Value} {y : DataW H × List MemPlace} (h : DataW.trod enc Tryz.prog W base sp hd n 3 [x] = some y) : ∃ k : Int, x = .int .i64 k := by
  obtain ⟨s, hc, _⟩ := DataW.trod_int Tryz.underlying3 h
  exact ⟨s, by simpa using hc⟩
theorem bulk_str (s : ByteArray) : Rows.uptoBulk (DataW.lit (H := H) (.string s.data.toList)) = s.size + 1 := by
  simp [Rows.uptoBulk]
theorem bulk_mem : ∀ {L : List (DataW H)} {d : DataW H}, d ∈ L → Rows.uptoBulk d ≤ Rows.uptoBulkAll L
  | x :: L, d, h => by
    rw [Rows.uptoBulkAll]
    rcases List.mem_cons.1 h with rfl | h
    · omega
    · have := bulk_mem h
      omega
theorem bulk_len : ∀ {L : List (DataW H)}, (∀ d ∈ L, 1 ≤ Rows.uptoBulk d) → L.length ≤ Rows.uptoBulkAll L
  | [], _ => Nat.zero_le _
  | x :: L, h => by
    rw [Rows.uptoBulkAll, List.length_cons]
    have h1 := h x (by simp)
    have h2 := bulk_len (L := L) fun d hd => h d (by simp [hd])
    omega
theorem cPs1 : Tryz.prog.cellsOf 30 = 1 := by kernel_rfl
theorem cPm3 : Tryz.prog.cellsOf 56 = 3 := by kernel_rfl
theorem c6u : Tryz.prog.cellsOf 32 = 6 := by kernel_rfl
theorem toPm_n (x : PB) : (toPm x).n.length = x.1.size ∧ (toPm x).v.length = x.2.1.size := ⟨byteL_len _, byteL_len _⟩
theorem pcs_trod {fuel : Nat} {base : Nat} {sp : Nat → Bool} {hd : Bool} {v : Value} {y : DataW H × List MemPlace} (hsp : ∀ b, sp b = true) (h : DataW.trod enc Tryz.prog W base sp hd fuel 30 [v] = some y) :
    ∃ (A : Option Addr) (n c : Nat) (l : List PB), v = .slice A n c ∧ l.length = n ∧ Rds W W.heap.size A (pms (l.map toPm)) ∧ n ≤ Rows.uptoBulk y.1 ∧ ∀ h ∈ l, h.1.size ≤ Rows.uptoBulk y.1 ∧ h.2.1.size ≤ Rows.uptoBulk y.1 := by
  rcases open_slice_fields Tryz.underlying30 Tryz.underlying56 (by kernel_rfl) cPm3 h with ⟨hcs, _⟩ | ⟨a, len, cap, m, D, Pl, hcs, _, hl, hm, hmm, hx, hi⟩
  · simp at hcs
    exact ⟨none, 0, 0, [], hcs, rfl, fun h => absurd h (by simp [pms]), Nat.zero_le _, fun h hh => absurd hh (by simp)⟩
  · simp at hcs
    subst hcs
    rw [if_pos (hsp _)] at hmm
    subst hmm
    have key : ∀ i, i < len → ∃ e : PB, W.cell? (a.add (i * 3)) = some (.string e.1) ∧ W.cell? (a.add (i * 3 + 1)) = some (.string e.2.1) ∧ W.cell? (a.add (i * 3 + 2)) = some (.bool e.2.2) ∧ e.1.size + e.2.1.size + 3 ≤ Rows.uptoBulk (D i) := by
      intro i hin
      obtain ⟨ys, n', hD, _, hyl, hf⟩ := hi i (by omega)
      obtain ⟨v0, y0, c0, g0, t0⟩ := hf 0 _ rfl
      obtain ⟨v1, y1, c1, g1, t1⟩ := hf 1 _ rfl
      obtain ⟨v2, y2, c2, g2, t2⟩ := hf 2 _ rfl
      obtain ⟨s0, rfl, z0⟩ := one_str t0
      obtain ⟨s1, rfl, z1⟩ := one_str t1
      obtain ⟨s2, rfl⟩ := one_bool t2
      refine ⟨(s0, s1, s2), c0, c1, c2, ?_⟩
      obtain ⟨p0, p1, p2, rfl⟩ : ∃ p0 p1 p2, ys = [p0, p1, p2] := by
        match ys, hyl with
        | [p0, p1, p2], _ => exact ⟨p0, p1, p2, rfl⟩
      obtain rfl : p0 = y0 := by simpa using g0
      obtain rfl : p1 = y1 := by simpa using g1
      rw [hD]
      simp only [List.map_cons, List.map_nil, Rows.uptoBulk, Rows.uptoBulkAll, z0, z1]
      simp
      omega
    obtain ⟨l, hll, hr⟩ := list_of len key
    have hy : Rows.uptoBulk y.1 = Rows.uptoBulkAll ((List.range len).map D) + Rows.uptoBulkAll ((List.range (m - len)).map fun j => D (len + j)) + 1 := by rw [hx]; rfl
    have hd : ∀ d ∈ (List.range len).map D, 1 ≤ Rows.uptoBulk d := fun d hd => by
      obtain ⟨i, hi1, rfl⟩ := List.mem_map.1 hd
      obtain ⟨e, _, _, _, h3⟩ := key i (by simpa using hi1)
      omega
    have hn := bulk_len hd
    rw [List.length_map, List.length_range] at hn
    refine ⟨some a, len, m, l, rfl, hll, fun h0 => ?_, by omega, fun h hh => ?_⟩
    · rw [pms_len, List.length_map, hll] at h0
      obtain ⟨e, c0, _⟩ := key 0 (by omega)
      obtain ⟨b, o, sp'⟩ := a
      have hsp' : sp' = none := by
        cases sp' with
        | none => rfl
        | some s => simp [Addr.add, World.cell?] at c0; split at c0 <;> simp at c0
      subst hsp'
      refine ⟨b, o, rfl, by simpa [Addr.add] using World.block_lt_of_cell? W _ c0, fun j u hu => ?_⟩
      have hj := (List.getElem?_eq_some_iff.1 hu).1
      rw [pms_len, List.length_map, hll] at hj
      obtain ⟨q, hq⟩ : ∃ q, l[j / 3]? = some q := ⟨_, List.getElem?_eq_getElem (by omega)⟩
      obtain ⟨q0, q1, q2, _⟩ := hr (j / 3) q hq
      have hq' : (l.map toPm)[j / 3]? = some (toPm q) := by rw [List.getElem?_map, hq]; rfl
      have AT := pms_at hq'
      rw [encP_to] at AT
      rw [Addr.add_mid] at q0 q1 q2
      rcases (show j % 3 = 0 ∨ j % 3 = 1 ∨ j % 3 = 2 by omega) with hj2 | hj2 | hj2
      · have h4 := AT 0 _ rfl
        rw [show j / 3 * 3 + 0 = j by omega, hu] at h4
        cases h4
        rwa [show o + j / 3 * 3 = o + j by omega] at q0
      · have h4 := AT 1 _ rfl
        rw [show j / 3 * 3 + 1 = j by omega, hu] at h4
        cases h4
        rwa [show o + (j / 3 * 3 + 1) = o + j by omega] at q1
      · have h4 := AT 2 _ rfl
        rw [show j / 3 * 3 + 2 = j by omega, hu] at h4
        cases h4
        rwa [show o + (j / 3 * 3 + 2) = o + j by omega] at q2
    · obtain ⟨i, hi1⟩ := List.mem_iff_getElem?.1 hh
      obtain ⟨_, _, _, h3⟩ := hr i h hi1
      have hi2 : i < len := by rw [← hll]; exact (List.getElem?_eq_some_iff.1 hi1).1
      have h4 := bulk_mem (List.mem_map.2 ⟨i, by simpa using hi2, rfl⟩ : D i ∈ (List.range len).map D)
      exact ⟨by omega, by omega⟩
theorem sixN {α : Type} {l : List α} (h : l.length = 6) : ∃ x0 x1 x2 x3 x4 x5, l = [x0, x1, x2, x3, x4, x5] := by
  match l, h with
  | [x0, x1, x2, x3, x4, x5], _ => exact ⟨x0, x1, x2, x3, x4, x5, rfl⟩
theorem uri_trod {fuel base : Nat} {sp : Nat → Bool} {hd : Bool} {cs : List Value} {x : DataW H × List MemPlace} (hsp : ∀ b, sp b = true) (h : DataW.trod enc Tryz.prog W base sp hd fuel 32 cs = some x) (hb : Rows.uptoBulk x.1 ≤ 1048576) :
    ∃ (u : Uri) (A1 A2 : Option Addr) (c1 c2 : Nat), cs = [.string (strOfNums u.sc), .string (strOfNums u.us), .string (strOfNums u.ho), .int .i64 u.po, .slice A1 u.ps.length c1, .slice A2 u.hs.length c2] ∧ UArg W u A1 A2 := by
  obtain ⟨xs, n, _, hx, hl, hlen, hfld⟩ := DataW.trod_struct Tryz.underlying32 h
  rw [c6u] at hl
  obtain ⟨x0, x1, x2, x3, x4, x5, rfl⟩ := sixN hl
  obtain ⟨y0, y1, y2, y3, y4, y5, rfl⟩ := sixN (show xs.length = 6 from hlen)
  have e0 : DataW.trod enc Tryz.prog W base sp hd n 9 (([x0, x1, x2, x3, x4, x5].drop 0).take (Tryz.prog.cellsOf 9)) = some y0 := hfld 0 _ rfl
  rw [cS] at e0
  have e1 : DataW.trod enc Tryz.prog W base sp hd n 9 (([x0, x1, x2, x3, x4, x5].drop 1).take (Tryz.prog.cellsOf 9)) = some y1 := hfld 1 _ rfl
  rw [cS] at e1
  have e2 : DataW.trod enc Tryz.prog W base sp hd n 9 (([x0, x1, x2, x3, x4, x5].drop 2).take (Tryz.prog.cellsOf 9)) = some y2 := hfld 2 _ rfl
  rw [cS] at e2
  have e3 : DataW.trod enc Tryz.prog W base sp hd n 3 (([x0, x1, x2, x3, x4, x5].drop 3).take (Tryz.prog.cellsOf 3)) = some y3 := hfld 3 _ rfl
  rw [cI] at e3
  have e4 : DataW.trod enc Tryz.prog W base sp hd n 30 (([x0, x1, x2, x3, x4, x5].drop 4).take (Tryz.prog.cellsOf 30)) = some y4 := hfld 4 _ rfl
  rw [cPs1] at e4
  have e5 : DataW.trod enc Tryz.prog W base sp hd n 30 (([x0, x1, x2, x3, x4, x5].drop 5).take (Tryz.prog.cellsOf 30)) = some y5 := hfld 5 _ rfl
  rw [cPs1] at e5
  obtain ⟨a0, rfl, z0⟩ := one_str (x := x0) (y := y0) e0
  obtain ⟨a1, rfl, z1⟩ := one_str (x := x1) (y := y1) e1
  obtain ⟨a2, rfl, z2⟩ := one_str (x := x2) (y := y2) e2
  obtain ⟨a3, rfl⟩ := one_int (x := x3) (y := y3) e3
  obtain ⟨A4, n4, c4, l4, rfl, u4, v4, w4, t4⟩ := pcs_trod (v := x4) (y := y4) hsp e4
  obtain ⟨A5, n5, c5, l5, rfl, u5, v5, w5, t5⟩ := pcs_trod (v := x5) (y := y5) hsp e5
  have hbb : Rows.uptoBulk x.1 = Rows.uptoBulk y0.1 + Rows.uptoBulk y1.1 + Rows.uptoBulk y2.1 + Rows.uptoBulk y3.1 + Rows.uptoBulk y4.1 + Rows.uptoBulk y5.1 + 1 := by
    rw [hx]
    simp only [List.map_cons, List.map_nil, Rows.uptoBulk, Rows.uptoBulkAll]
    omega
  have k0 := bulk_str (H := H) a0
  rw [← z0] at k0
  have k1 := bulk_str (H := H) a1
  rw [← z1] at k1
  have k2 := bulk_str (H := H) a2
  rw [← z2] at k2
  have P4 : ∀ p ∈ l4.map toPm, pmSz p := fun p hp => by
    obtain ⟨q, hq, rfl⟩ := List.mem_map.1 hp
    have := t4 q hq
    have := toPm_n q
    exact ⟨(toPm_by q).1, (toPm_by q).2, by omega, by omega⟩
  have P5 : ∀ p ∈ l5.map toPm, pmSz p := fun p hp => by
    obtain ⟨q, hq, rfl⟩ := List.mem_map.1 hp
    have := t5 q hq
    have := toPm_n q
    exact ⟨(toPm_by q).1, (toPm_by q).2, by omega, by omega⟩
  have m4 : (l4.map toPm).length = n4 := by rw [List.length_map, u4]
  have m5 : (l5.map toPm).length = n5 := by rw [List.length_map, u5]
  refine ⟨⟨byteL a0, byteL a1, byteL a2, a3, l4.map toPm, l5.map toPm⟩, A4, A5, c4, c5, ?_, ⟨⟨byteL_by _, byteL_by _, byteL_by _, fun p hp => ⟨(P4 p hp).1, (P4 p hp).2.1⟩, fun p hp => ⟨(P5 p hp).1, (P5 p hp).2.1⟩⟩, ?_, ?_, ?_, P4, P5, v4, v5, ?_, ?_⟩⟩
  · dsimp only
    rw [str_byteL, str_byteL, str_byteL, m4, m5]
  · show (byteL a0).length ≤ 4000000; rw [byteL_len]; omega
  · show (byteL a1).length ≤ 4000000; rw [byteL_len]; omega
  · show (byteL a2).length ≤ 4000000; rw [byteL_len]; omega
  · show (l4.map toPm).length ≤ 16000000; omega
  · show (l5.map toPm).length ≤ 16000000; omega
set_option linter.constructorNameAsVariable false
end

section
variable {H : Type} {enc : TypeId × Value → H} {W : World} {b0 : Nat} {v : Value} {d : DataW H} {p : List MemPlace}
theorem bulk_len3 : ∀ {L : List (DataW H)}, (∀ d ∈ L, 3 ≤ Rows.uptoBulk d) → 3 * L.length ≤ Rows.uptoBulkAll L
  | [], _ => Nat.zero_le _
  | x :: L, h => by
    rw [Rows.uptoBulkAll, List.length_cons]
    have h1 := h x (by simp)
    have h2 := bulk_len3 (L := L) fun d hd => h d (by simp [hd])
    omega
theorem pcs_more {fuel : Nat} {base : Nat} {sp : Nat → Bool} {hd : Bool} {A : Option Addr} {n c : Nat} {y : DataW H × List MemPlace} (h : DataW.trod enc Tryz.prog W base sp hd fuel 30 [.slice A n c] = some y) : n ≤ c ∧ 3 * n ≤ Rows.uptoBulk y.1 := by
  rcases open_slice_fields Tryz.underlying30 Tryz.underlying56 (by kernel_rfl) cPm3 h with ⟨hcs, _⟩ | ⟨a, len, cap, m, D, Pl, hcs, _, hl, hm, hmm, hx, hi⟩
  · simp at hcs
    obtain ⟨_, rfl, rfl⟩ := hcs
    exact ⟨Nat.le_refl _, Nat.zero_le _⟩
  · simp at hcs
    obtain ⟨_, rfl, rfl⟩ := hcs
    have hm2 : n ≤ m := by rw [hmm]; split <;> omega
    have hd : ∀ d ∈ (List.range n).map D, 3 ≤ Rows.uptoBulk d := fun d hd => by
      obtain ⟨i, hi1, rfl⟩ := List.mem_map.1 hd
      have hin : i < n := by simpa using hi1
      obtain ⟨ys, n', hD, _, hyl, hf⟩ := hi i (by omega)
      obtain ⟨v0, y0, c0, g0, t0⟩ := hf 0 _ rfl
      obtain ⟨v1, y1, c1, g1, t1⟩ := hf 1 _ rfl
      obtain ⟨s0, rfl, z0⟩ := one_str t0
      obtain ⟨s1, rfl, z1⟩ := one_str t1
      obtain ⟨p0, p1, p2, rfl⟩ : ∃ p0 p1 p2, ys = [p0, p1, p2] := by
        match ys, hyl with
        | [p0, p1, p2], _ => exact ⟨p0, p1, p2, rfl⟩
      obtain rfl : p0 = y0 := by simpa using g0
      obtain rfl : p1 = y1 := by simpa using g1
      rw [hD]
      simp only [List.map_cons, List.map_nil, Rows.uptoBulk, Rows.uptoBulkAll, z0, z1]
      simp
      omega
    have hn := bulk_len3 hd
    rw [List.length_map, List.length_range] at hn
    have hy : Rows.uptoBulk y.1 = Rows.uptoBulkAll ((List.range n).map D) + Rows.uptoBulkAll ((List.range (m - n)).map fun j => D (n + j)) + 1 := by rw [hx]; rfl
    exact ⟨hl, by omega⟩
theorem uri_more {fuel base : Nat} {sp : Nat → Bool} {hd : Bool} {A1 A2 : Option Addr} {x0 x1 x2 : Value} {k : Int} {n1 n2 c1 c2 : Nat} {x : DataW H × List MemPlace} (h : DataW.trod enc Tryz.prog W base sp hd fuel 32 [x0, x1, x2, .int .i64 k, .slice A1 n1 c1, .slice A2 n2 c2] = some x) (hb : Rows.uptoBulk x.1 ≤ 1048576) :
    n1 ≤ c1 ∧ n2 ≤ c2 ∧ (-9223372036854775808 ≤ k ∧ k < 9223372036854775808) ∧ n1 ≤ 1000000 ∧ n2 ≤ 1000000 := by
  obtain ⟨xs, n, _, hx, _, hlen, hfld⟩ := DataW.trod_struct Tryz.underlying32 h
  obtain ⟨y0, y1, y2, y3, y4, y5, rfl⟩ := sixN (show xs.length = 6 from hlen)
  have e3 : DataW.trod enc Tryz.prog W base sp hd n 3 (([x0, x1, x2, .int .i64 k, .slice A1 n1 c1, .slice A2 n2 c2].drop 3).take (Tryz.prog.cellsOf 3)) = some y3 := hfld 3 _ rfl
  rw [cI] at e3
  have e4 : DataW.trod enc Tryz.prog W base sp hd n 30 (([x0, x1, x2, .int .i64 k, .slice A1 n1 c1, .slice A2 n2 c2].drop 4).take (Tryz.prog.cellsOf 30)) = some y4 := hfld 4 _ rfl
  rw [cPs1] at e4
  have e5 : DataW.trod enc Tryz.prog W base sp hd n 30 (([x0, x1, x2, .int .i64 k, .slice A1 n1 c1, .slice A2 n2 c2].drop 5).take (Tryz.prog.cellsOf 30)) = some y5 := hfld 5 _ rfl
  rw [cPs1] at e5
  obtain ⟨k', hk, _, hw⟩ := DataW.trod_int Tryz.underlying3 e3
  obtain rfl : k = k' := by simpa using hk
  obtain ⟨u4, w4⟩ := pcs_more (y := y4) e4
  obtain ⟨u5, w5⟩ := pcs_more (y := y5) e5
  have hbb : Rows.uptoBulk x.1 = Rows.uptoBulk y0.1 + Rows.uptoBulk y1.1 + Rows.uptoBulk y2.1 + Rows.uptoBulk y3.1 + Rows.uptoBulk y4.1 + Rows.uptoBulk y5.1 + 1 := by
    rw [hx]
    simp only [List.map_cons, List.map_nil, Rows.uptoBulk, Rows.uptoBulkAll]
    omega
  refine ⟨u4, u5, ?_, by omega, by omega⟩
  simp [Lit.wf, IntKind.min, IntKind.max, IntKind.signed, IntKind.bits] at hw
  omega
set_option linter.constructorNameAsVariable false
end

section
variable {H : Type} {enc : TypeId × Value → H} {W : World} {b0 : Nat} {v : Value} {d : DataW H} {p : List MemPlace}
theorem pcs_nil {fuel : Nat} {base : Nat} {sp : Nat → Bool} {hd : Bool} {n c : Nat} {y : DataW H × List MemPlace} (h : DataW.trod enc Tryz.prog W base sp hd fuel 30 [.slice none n c] = some y) : n = 0 ∧ c = 0 := by
  rcases open_slice_fields Tryz.underlying30 Tryz.underlying56 (by kernel_rfl) cPm3 h with ⟨hcs, _⟩ | ⟨a, len, cap, m, D, Pl, hcs, _, _⟩
  · simp at hcs
    exact hcs
  · simp at hcs
theorem toPm_szs {l : List PB} {N : Nat} (hN : N ≤ 4000000) (h : ∀ q ∈ l, q.1.size ≤ N ∧ q.2.1.size ≤ N) : ∀ p ∈ l.map toPm, pmSz p := fun p hp => by
  obtain ⟨q, hq, rfl⟩ := List.mem_map.1 hp
  have := h q hq
  have := toPm_n q
  exact ⟨(toPm_by q).1, (toPm_by q).2, by omega, by omega⟩
end

section
variable {H : Type} {enc : TypeId × Value → H} {W : World} {b0 : Nat} {v : Value} {d : DataW H} {p : List MemPlace}
theorem sum_bulk (f : Pm → Nat) : ∀ (l : List Pm) (L : List (DataW H)), L.length = l.length → (∀ (i : Nat) (p : Pm) (d : DataW H), l[i]? = some p → L[i]? = some d → f p ≤ Rows.uptoBulk d) → (l.map f).sum ≤ Rows.uptoBulkAll L
  | [], _, _, _ => Nat.zero_le _
  | _ :: _, [], h, _ => by cases h
  | p :: r, d :: L, h, hk => by
    rw [Rows.uptoBulkAll, List.map_cons, List.sum_cons]
    have h1 := hk 0 p d rfl rfl
    have h2 := sum_bulk f r L (by simpa using h) (fun i p d a b => hk (i + 1) p d a b)
    omega
theorem pcs_sum {fuel : Nat} {base : Nat} {sp : Nat → Bool} {hd : Bool} {A : Option Addr} {n c : Nat} {y : DataW H × List MemPlace} (h : DataW.trod enc Tryz.prog W base sp hd fuel 30 [.slice A n c] = some y) (l : List Pm) (hl : l.length = n) (hr : Rds W W.heap.size A (pms l)) : sumPm l ≤ Rows.uptoBulk y.1 := by
  rcases open_slice_fields Tryz.underlying30 Tryz.underlying56 (by kernel_rfl) cPm3 h with ⟨hcs, _⟩ | ⟨a, len, cap, m, D, Pl, hcs, _, hlc, hm, hmm, hx, hi⟩
  · simp at hcs
    obtain ⟨_, rfl, rfl⟩ := hcs
    rw [List.eq_nil_of_length_eq_zero hl]
    exact Nat.zero_le _
  · simp at hcs
    obtain ⟨rfl, rfl, rfl⟩ := hcs
    have hm2 : n ≤ m := by rw [hmm]; split <;> omega
    have hy : Rows.uptoBulk y.1 = Rows.uptoBulkAll ((List.range n).map D) + Rows.uptoBulkAll ((List.range (m - n)).map fun j => D (n + j)) + 1 := by rw [hx]; rfl
    have key := sum_bulk (fun p => p.n.length + p.v.length) l ((List.range n).map D) (by simp [hl]) (fun i p d hp hd => by
      have hin : i < n := by rw [← hl]; exact (List.getElem?_eq_some_iff.1 hp).1
      obtain rfl : D i = d := by rw [List.getElem?_map, List.getElem?_range hin] at hd; simpa using hd
      obtain ⟨ys, n', hD, _, hyl, hf⟩ := hi i (by omega)
      obtain ⟨v0, y0, c0, g0, t0⟩ := hf 0 _ rfl
      obtain ⟨v1, y1, c1, g1, t1⟩ := hf 1 _ rfl
      obtain ⟨b, o, e, _, hc⟩ := hr (by rw [pms_len]; omega)
      cases e
      have AT := pms_at hp
      have r0 := hc _ _ (AT 0 _ rfl)
      have r1 := hc _ _ (AT 1 _ rfl)
      rw [Addr.add_mid] at c0 c1
      have e0 : v0 = .string (strOfNums p.n) := Option.some.inj (c0.symm.trans r0)
      have e1 : v1 = .string (strOfNums p.v) := Option.some.inj (c1.symm.trans r1)
      subst e0; subst e1
      obtain ⟨s0, q0, z0⟩ := one_str t0
      obtain ⟨s1, q1, z1⟩ := one_str t1
      cases q0; cases q1
      obtain ⟨p0, p1, p2, rfl⟩ : ∃ p0 p1 p2, ys = [p0, p1, p2] := by
        match ys, hyl with
        | [p0, p1, p2], _ => exact ⟨p0, p1, p2, rfl⟩
      obtain rfl : p0 = y0 := by simpa using g0
      obtain rfl : p1 = y1 := by simpa using g1
      have n0 := num_size p.n
      have n1 := num_size p.v
      rw [hD]
      simp only [List.map_cons, List.map_nil, Rows.uptoBulk, Rows.uptoBulkAll, z0, z1]
      simp
      omega)
    unfold sumPm
    omega
theorem c8a : Tryz.prog.cellsOf 38 = 8 := by kernel_rfl
theorem eightN {α : Type} {l : List α} (h : l.length = 8) : ∃ x0 x1 x2 x3 x4 x5 x6 x7, l = [x0, x1, x2, x3, x4, x5, x6, x7] := by
  match l, h with
  | [x0, x1, x2, x3, x4, x5, x6, x7], _ => exact ⟨x0, x1, x2, x3, x4, x5, x6, x7, rfl⟩
set_option linter.constructorNameAsVariable false in
theorem adr_open (hv : Value.okWide Tryz.prog W .any b0 38 v) (h : DataW.Trod enc Tryz.prog W 0 (fun _ => true) true 38 v d p) (hb : Rows.uptoBulk d ≤ 1048576) :
    ∃ (a : Adr) (A1 A2 A3 : Option Addr) (c1 c2 c3 : Nat), v = adV9 a A1 A2 A3 c1 c2 c3 ∧ AdG W a A1 A2 A3 c1 c2 c3 := by
  obtain ⟨cs, rfl, hsz⟩ := okWide_struct Tryz.underlying38 hv
  obtain ⟨fuel, hf⟩ := h
  have hf2 : DataW.trod enc Tryz.prog W 0 (fun _ => true) true fuel 38 cs.toList = some (d, p) := hf
  obtain ⟨xs, n, _, hx, hl, hlen, hfld⟩ := DataW.trod_struct Tryz.underlying38 hf2
  rw [c8a] at hl
  obtain ⟨x0, x1, x2, x3, x4, x5, x6, x7, hc⟩ := eightN hl
  obtain ⟨y0, y1, y2, rfl⟩ : ∃ y0 y1 y2, xs = [y0, y1, y2] := by
    match xs, (show xs.length = 3 from hlen) with
    | [y0, y1, y2], _ => exact ⟨y0, y1, y2, rfl⟩
  rw [hc] at hfld
  have e0 : DataW.trod enc Tryz.prog W 0 (fun _ => true) true n 9 (([x0, x1, x2, x3, x4, x5, x6, x7].drop 0).take (Tryz.prog.cellsOf 9)) = some y0 := hfld 0 _ rfl
  rw [cS] at e0
  have e1 : DataW.trod enc Tryz.prog W 0 (fun _ => true) true n 32 (([x0, x1, x2, x3, x4, x5, x6, x7].drop 1).take (Tryz.prog.cellsOf 32)) = some y1 := hfld 1 _ rfl
  rw [c6u] at e1
  have e2 : DataW.trod enc Tryz.prog W 0 (fun _ => true) true n 30 (([x0, x1, x2, x3, x4, x5, x6, x7].drop 7).take (Tryz.prog.cellsOf 30)) = some y2 := hfld 2 _ rfl
  rw [cPs1] at e2
  have hbb : Rows.uptoBulk d = Rows.uptoBulk y0.1 + Rows.uptoBulk y1.1 + Rows.uptoBulk y2.1 + 1 := by
    have hd : d = DataW.agg ([y0, y1, y2].map (·.1)) := congrArg Prod.fst hx
    rw [hd]
    simp only [List.map_cons, List.map_nil, Rows.uptoBulk, Rows.uptoBulkAll]
    omega
  have hb1 : Rows.uptoBulk y1.1 ≤ 1048576 := by omega
  obtain ⟨a0, rfl, z0⟩ := one_str (x := x0) (y := y0) e0
  obtain ⟨u, A1, A2, c1, c2, hU, hu⟩ := uri_trod (fun _ => rfl) (show DataW.trod enc Tryz.prog W 0 (fun _ => true) true n 32 [x1, x2, x3, x4, x5, x6] = some y1 from e1) hb1
  simp only [List.cons.injEq, and_true] at hU
  obtain ⟨rfl, rfl, rfl, rfl, rfl, rfl⟩ := hU
  obtain ⟨h1, h2, h3, h4, h5⟩ := uri_more (show DataW.trod enc Tryz.prog W 0 (fun _ => true) true n 32 _ = some y1 from e1) hb1
  have e3 : DataW.trod enc Tryz.prog W 0 (fun _ => true) true n 30 [x7] = some y2 := e2
  obtain ⟨A3, n3, c3, l, rfl, hll, hr, _, hz⟩ := pcs_trod (fun _ => rfl) e3
  obtain ⟨m1, m2⟩ := pcs_more e3
  have m3 := pcs_sum e3 (l.map toPm) (by rw [List.length_map, hll]) hr
  have k0 := bulk_str (H := H) a0
  rw [← z0] at k0
  have hll2 : (l.map toPm).length = n3 := by rw [List.length_map, hll]
  refine ⟨⟨byteL a0, u, l.map toPm⟩, A1, A2, A3, c1, c2, c3, ?_, ⟨⟨hu, h1, h2, h3, h4, h5⟩, byteL_by _, ?_, hr, toPm_szs (N := 1048576) (by omega) (fun q hq => ?_), (fun hA => ?_), ?_, ?_, ?_⟩⟩
  · unfold adV9
    congr 1
    apply Array.toList_inj.1
    rw [hc]
    dsimp only
    rw [str_byteL, hll2]
  · show (byteL a0).length ≤ 4000000; rw [byteL_len]; omega
  · have := hz q hq
    have h1 : q.1.size ≤ Rows.uptoBulk y2.1 := this.1
    have h2 : q.2.1.size ≤ Rows.uptoBulk y2.1 := this.2
    omega
  · subst hA
    dsimp only
    rw [hll2]
    exact pcs_nil e3
  · dsimp only; rw [hll2]; exact m1
  · dsimp only; rw [hll2]; have : 3 * n3 ≤ Rows.uptoBulk y2.1 := m2; omega
  · dsimp only; omega
end
end Go.Proofs.YthfonniieaiocaaGreatDoor
