/- Messages and asks, opened; the special names out of the listed variables. Desks opened: guards, nonces, accounts. More of what the rows share: the listed variables of the laws that issue. More of what the rows share: numbers of 32 bits opened. -/
import Derived.Test.YtfhbpgickkibmaaGreatDoorYb
import Derived.Test.YtfhbpgickkibmaaGreatDoorNg
import Derived.Deep.Slices
import Derived.Deep.Fields
import Derived.ChangeSame
import Derived.Test.YtfhbpgickkibmaaGreatDoorRc
import Derived.Test.YtfhbpgickkibmaaGreatDoorSa
import Derived.Test.YtfhbpgickkibmaaGreatDoorTd
namespace Go.Proofs.YtfhbpgickkibmaaGreatDoor
open Go.ChangeShapes Go.WideShapes Go.ChangeAt Go.RowKit
open Go.ChangeMaps (open_string shut_string)

theorem gSp : Tryz.prog.globalNamed "dialtone/header.specials" = some 0 := by kernel_rfl
theorem tSp : (Tryz.prog.globals[0]?).map (·.type) = some 179 := by kernel_rfl
theorem cA7 : Tryz.prog.cellsOf 179 = 7 := by kernel_rfl
theorem laidSp {H : Type} : (Rows.laid_dialtone_header_specials (H := H)) = .agg (SPECIALS.map fun s => .lit (.string (strOfNums s).data.toList)) := by kernel_rfl
theorem SC_of_head {W : World} {rest : List (String × DataW Unit)} (h : laidMet Tryz.prog (("dialtone/header.specials", Rows.laid_dialtone_header_specials) :: rest) W) : SC W := by
  obtain ⟨ps, ⟨g', t', cs, fuel, p, q, hg', ht', hvar, hd, _, _⟩, _⟩ := h
  obtain rfl := Option.some.inj (gSp.symm.trans hg')
  obtain rfl := Option.some.inj (tSp.symm.trans ht')
  rw [laidSp] at hd
  obtain ⟨xs, m, _, hx, hl, hlen, hf⟩ := DataW.trod_array Tryz.underlying179 hd
  rw [cA7] at hl
  have hxs : xs.map (·.1) = SPECIALS.map fun s => (DataW.lit (.string (strOfNums s).data.toList)) := by
    have := congrArg Prod.fst hx
    simpa using this.symm
  have key : ∀ (j : Nat) (v : Value), SPV[j]? = some v → cs.toList[j]? = some v := fun j v hv => by
    have hj : j < 7 := (List.getElem?_eq_some_iff.1 hv).1
    have h1 := hf j hj
    rw [cS, Nat.mul_one] at h1
    rw [List.getElem?_eq_getElem (by rw [hlen]; exact hj)] at h1
    obtain ⟨s, hc, hy, _⟩ := DataW.trod_string Tryz.underlying9 h1
    have h2 : (xs.map (·.1))[j]? = some (DataW.lit (.string s.data.toList)) := by
      rw [List.getElem?_map, List.getElem?_eq_getElem (by rw [hlen]; exact hj), hy]; rfl
    rw [hxs, List.getElem?_map] at h2
    obtain ⟨x, hx1, hx2⟩ := Option.map_eq_some_iff.1 h2
    injection hx2 with hx3
    injection hx3 with hx4
    have hs : s = strOfNums x := by
      have : (strOfNums x).data = s.data := Array.toList_inj.1 hx4
      cases s
      generalize strOfNums x = y at *
      cases y
      simp_all
    have h3 : cs.toList[j]? = some (.string s) := by
      have := congrArg (·[0]?) hc
      simpa [List.getElem?_take, List.getElem?_drop] using this
    rw [h3, hs]
    unfold SPV at hv
    rw [List.getElem?_map, hx1] at hv
    exact hv
  have cell : ∀ (j : Nat) (v : Value), SPV[j]? = some v → W.cell? ⟨0, j, none⟩ = some v := fun j v hv => by
    rw [World.var?_cell gSp hvar j]
    simpa using key j v hv
  exact ⟨block_lt_of_cell (cell 0 _ rfl), fun j v hv => by rw [Nat.zero_add]; exact cell j v hv⟩
theorem SC_of_a {W : World} (h : laidMetH Tryz.prog LDa W) : SC W := by
  rw [MakeChecks.laidMetH_plain _ _ _ (by kernel_rfl)] at h
  exact SC_of_head (laidMet.tail (laidMet.tail h))

theorem list_of {α : Type} {R : Nat → α → Prop} : ∀ n : Nat, (∀ i, i < n → ∃ e, R i e) → ∃ l : List α, l.length = n ∧ ∀ (i : Nat) (e : α), l[i]? = some e → R i e
  | 0, _ => ⟨[], rfl, fun i e h => by simp at h⟩
  | n + 1, h => by
    obtain ⟨l, hl, hr⟩ := list_of n fun i hi => h i (by omega)
    obtain ⟨e, he⟩ := h n (by omega)
    refine ⟨l ++ [e], by simp [hl], fun i x hx => ?_⟩
    rcases Nat.lt_or_ge i n with h1 | h1
    · rw [List.getElem?_append_left (by omega)] at hx; exact hr i x hx
    · have h2 : i < (l ++ [e]).length := (List.getElem?_eq_some_iff.1 hx).1
      obtain rfl : i = n := by simp at h2; omega
      rw [List.getElem?_append_right (by omega)] at hx
      obtain rfl : e = x := by simpa [hl] using hx
      exact he

section
open Go.Deep
variable {H : Type} {enc : TypeId × Value → H} {P : Program} {w : World} {base : Nat} {spare : Nat → Bool} {held : Bool}
theorem open_slice_fields {t e : TypeId} {fs : Array Field} {fuel : Nat} {cs : List Value} {x : DataW H × List MemPlace} (ht : P.underlying t = some (.slice e)) (he : P.underlying e = some (.struct fs))
    (hone : oneCellFields P fs = true) (hC : P.cellsOf e = fs.size) (h : DataW.trod enc P w base spare held fuel t cs = some x) :
    (cs = [.slice none 0 0] ∧ x = (.nil, [])) ∨
    ∃ (a : Addr) (len cap m : Nat) (D : Nat → DataW H) (Pl : Nat → List MemPlace), cs = [.slice (some a) len cap] ∧ base ≤ a.block ∧ len ≤ cap ∧ cap ≤ maxLen ∧ m = (if spare a.block then cap else len) ∧
      x = (.slice ((List.range len).map D) ((List.range (m - len)).map fun j => D (len + j)), MemPlace.row a (m * fs.size) ++ (List.range m).flatMap Pl) ∧
      ∀ i, i < m → ∃ (ys : List (DataW H × List MemPlace)) (n : Nat), D i = .agg (ys.map (·.1)) ∧ Pl i = ys.flatMap (·.2) ∧ ys.length = fs.size ∧
        ∀ (j : Nat) (f : Field), fs[j]? = some f → ∃ (v : Value) (y : DataW H × List MemPlace), w.cell? (a.add (i * fs.size + j)) = some v ∧ ys[j]? = some y ∧ DataW.trod enc P w base spare held n f.type [v] = some y := by
  rcases open_slice ht h with h0 | ⟨a, len, cap, m, n, D, Pl, hcs, hb, hl, hm, hmm, hx, hi⟩
  · exact .inl h0
  · refine .inr ⟨a, len, cap, m, D, Pl, hcs, hb, hl, hm, hmm, by rw [hC] at hx; exact hx, fun i him => ?_⟩
    obtain ⟨cs', hc, ht'⟩ := hi i him
    rw [hC] at hc
    obtain ⟨ys, n', hn', hy, hlen, hyl, hf⟩ := DataW.trod_struct he ht'
    obtain ⟨_, hcl, hat⟩ := World.cells?_some hc
    simp only [Prod.mk.injEq] at hy
    refine ⟨ys, n', hy.1, hy.2, hyl, fun j f hj => ?_⟩
    obtain ⟨ho, hk⟩ := hone_of hone j f hj
    have hjl : j < fs.size := (Array.getElem?_eq_some_iff.1 hj).1
    have hcell := hat j hjl
    have hv : cs'[j]? = some (cs'[j]'(by omega)) := List.getElem?_eq_getElem (by omega)
    have h1 := hf j f hj
    rw [ho, hk] at h1
    have hone' : (cs'.drop j).take 1 = [cs'[j]'(by omega)] := by
      rw [List.drop_eq_getElem_cons (by omega)]
      rfl
    rw [hone'] at h1
    have hys : ys[j]? = some (ys[j]'(by omega)) := List.getElem?_eq_getElem (by omega)
    refine ⟨_, _, ?_, hys, h1.trans hys⟩
    rw [← Go.Deep.add_add, hcell, hv]
end
section
variable {H : Type} {enc : TypeId × Value → H} {W : World} {b0 : Nat} {v : Value} {d : DataW H} {p : List MemPlace}
theorem bulk_mem : ∀ {L : List (DataW H)} {d : DataW H}, d ∈ L → Rows.uptoBulk d ≤ Rows.uptoBulkAll L
  | x :: L, d, h => by
    rw [Rows.uptoBulkAll]
    rcases List.mem_cons.1 h with rfl | h
    · omega
    · have := bulk_mem h
      omega
theorem bulk_len : ∀ {L : List (DataW H)}, (∀ d ∈ L, 1 ≤ Rows.uptoBulk d) → L.length ≤ Rows.uptoBulkAll L
  | [], _ => Nat.zero_le _
  | x :: L, h => by
    rw [Rows.uptoBulkAll, List.length_cons]
    have h1 := h x (by simp)
    have h2 := bulk_len (L := L) fun d hd => h d (by simp [hd])
    omega
theorem cHs : Tryz.prog.cellsOf 39 = 1 := by kernel_rfl
theorem cYs : Tryz.prog.cellsOf 31 = 1 := by kernel_rfl
theorem cH2 : Tryz.prog.cellsOf 69 = 2 := by kernel_rfl
theorem c6m : Tryz.prog.cellsOf 41 = 6 := by kernel_rfl
theorem c15a : Tryz.prog.cellsOf 38 = 15 := by kernel_rfl
theorem bytesN_trod {fuel : Nat} {base : Nat} {sp : Nat → Bool} {hd : Bool} {v : Value} {y : DataW H × List MemPlace} (hsp : ∀ b, sp b = true) (h : DataW.trod enc Tryz.prog W base sp hd fuel 31 [v] = some y) :
    ∃ (A : Option Addr) (n c : Nat) (bs : List Int), v = .slice A n c ∧ By bs ∧ bs.length = n ∧ Bs W W.heap.size A bs ∧ n ≤ Rows.uptoBulk y.1 ∧ (A = none → n = 0 ∧ c = 0) := by
  rcases open_ints Tryz.underlying31 Tryz.underlying5 cU8 h with ⟨h1, h2⟩ | ⟨a, len, cap, zs, h1, _⟩
  · simp at h1
    exact ⟨none, 0, 0, [], h1, fun x hx => absurd hx (by simp), rfl, fun h => absurd h (by simp), Nat.zero_le _, fun _ => ⟨rfl, rfl⟩⟩
  · simp at h1
    obtain ⟨A, n, c, bs, e, h2, h3, _, h5, h6⟩ := bytes_trod hsp h
    refine ⟨A, n, c, bs, e, h2, h3, h5, h6, fun hA => ?_⟩
    rw [h1, hA] at e
    cases e
theorem hdrs_trod {fuel : Nat} {base : Nat} {sp : Nat → Bool} {hd : Bool} {v : Value} {y : DataW H × List MemPlace} (hsp : ∀ b, sp b = true) (h : DataW.trod enc Tryz.prog W base sp hd fuel 39 [v] = some y) :
    ∃ (A : Option Addr) (n c : Nat) (l : List (ByteArray × ByteArray)), v = .slice A n c ∧ l.length = n ∧ Rds W W.heap.size A (hds l) ∧ n ≤ Rows.uptoBulk y.1 ∧ ∀ h ∈ l, h.1.size ≤ Rows.uptoBulk y.1 ∧ h.2.size ≤ Rows.uptoBulk y.1 := by
  rcases open_slice_fields Tryz.underlying39 Tryz.underlying69 (by kernel_rfl) cH2 h with ⟨hcs, _⟩ | ⟨a, len, cap, m, D, Pl, hcs, _, hl, hm, hmm, hx, hi⟩
  · simp at hcs
    exact ⟨none, 0, 0, [], hcs, rfl, fun h => absurd h (by simp [hds]), Nat.zero_le _, fun h hh => absurd hh (by simp)⟩
  · simp at hcs
    subst hcs
    rw [if_pos (hsp _)] at hmm
    subst hmm
    have key : ∀ i, i < len → ∃ e : ByteArray × ByteArray, W.cell? (a.add (i * 2)) = some (.string e.1) ∧ W.cell? (a.add (i * 2 + 1)) = some (.string e.2) ∧ e.1.size + e.2.size + 3 = Rows.uptoBulk (D i) := by
      intro i hin
      obtain ⟨ys, n', hD, _, hyl, hf⟩ := hi i (by omega)
      obtain ⟨v0, y0, c0, g0, t0⟩ := hf 0 _ rfl
      obtain ⟨v1, y1, c1, g1, t1⟩ := hf 1 _ rfl
      obtain ⟨s0, rfl, z0⟩ := one_str t0
      obtain ⟨s1, rfl, z1⟩ := one_str t1
      refine ⟨(s0, s1), c0, c1, ?_⟩
      obtain ⟨p0, p1, rfl⟩ : ∃ p0 p1, ys = [p0, p1] := by
        match ys, hyl with
        | [p0, p1], _ => exact ⟨p0, p1, rfl⟩
      obtain rfl : p0 = y0 := by simpa using g0
      obtain rfl : p1 = y1 := by simpa using g1
      rw [hD]
      simp only [List.map_cons, List.map_nil, Rows.uptoBulk, Rows.uptoBulkAll, z0, z1]
      simp
      omega
    obtain ⟨l, hll, hr⟩ := list_of len key
    have hy : Rows.uptoBulk y.1 = Rows.uptoBulkAll ((List.range len).map D) + Rows.uptoBulkAll ((List.range (m - len)).map fun j => D (len + j)) + 1 := by rw [hx]; rfl
    have hd : ∀ d ∈ (List.range len).map D, 1 ≤ Rows.uptoBulk d := fun d hd => by
      obtain ⟨i, hi1, rfl⟩ := List.mem_map.1 hd
      obtain ⟨e, _, _, h3⟩ := key i (by simpa using hi1)
      omega
    have hn := bulk_len hd
    rw [List.length_map, List.length_range] at hn
    refine ⟨some a, len, m, l, rfl, hll, fun h0 => ?_, by omega, fun h hh => ?_⟩
    · rw [hds_len, hll] at h0
      obtain ⟨e, c0, _⟩ := key 0 (by omega)
      obtain ⟨b, o, sp'⟩ := a
      have hsp' : sp' = none := by
        cases sp' with
        | none => rfl
        | some s => simp [Addr.add, World.cell?] at c0; split at c0 <;> simp at c0
      subst hsp'
      refine ⟨b, o, rfl, by simpa [Addr.add] using World.block_lt_of_cell? W _ c0, fun j u hu => ?_⟩
      have hj := (List.getElem?_eq_some_iff.1 hu).1
      rw [hds_len, hll] at hj
      obtain ⟨q, hq⟩ : ∃ q, l[j / 2]? = some q := ⟨_, List.getElem?_eq_getElem (by omega)⟩
      obtain ⟨q0, q1, _⟩ := hr (j / 2) q hq
      rw [Addr.add_mid] at q0 q1
      rcases Nat.mod_two_eq_zero_or_one j with hj2 | hj2
      · have h4 := hds_at hq 0 _ rfl
        rw [show j / 2 * 2 + 0 = j by omega, hu] at h4
        cases h4
        rwa [show o + j / 2 * 2 = o + j by omega] at q0
      · have h4 := hds_at hq 1 _ rfl
        rw [show j / 2 * 2 + 1 = j by omega, hu] at h4
        cases h4
        rwa [show o + (j / 2 * 2 + 1) = o + j by omega] at q1
    · obtain ⟨i, hi1⟩ := List.mem_iff_getElem?.1 hh
      obtain ⟨_, _, h3⟩ := hr i h hi1
      have hi2 : i < len := by rw [← hll]; exact (List.getElem?_eq_some_iff.1 hi1).1
      have h4 := bulk_mem (List.mem_map.2 ⟨i, by simpa using hi2, rfl⟩ : D i ∈ (List.range len).map D)
      exact ⟨by omega, by omega⟩
set_option maxRecDepth 100000 in
theorem fiveN {α : Type} {l : List α} (h : l.length = 5) : ∃ x0 x1 x2 x3 x4, l = [x0, x1, x2, x3, x4] := by
  match l, h with
  | [x0, x1, x2, x3, x4], _ => exact ⟨x0, x1, x2, x3, x4, rfl⟩
set_option maxRecDepth 100000 in
theorem ch_trod {fuel base : Nat} {sp : Nat → Bool} {hd : Bool} {cs : List Value} {x : DataW H × List MemPlace} (hsp : ∀ b, sp b = true) (h : DataW.trod enc Tryz.prog W base sp hd fuel 36 cs = some x) :
    ∃ (a0 : ByteArray) (a1 : ByteArray) (a2 : ByteArray) (a3 : Bool) (a4 : Bool), cs = [.string a0, .string a1, .string a2, .bool a3, .bool a4] ∧ a0.size ≤ Rows.uptoBulk x.1 ∧ a1.size ≤ Rows.uptoBulk x.1 ∧ a2.size ≤ Rows.uptoBulk x.1 := by
  obtain ⟨xs, n, _, hx, hl, hlen, hfld⟩ := DataW.trod_struct Tryz.underlying36 h
  rw [c5c] at hl
  obtain ⟨x0, x1, x2, x3, x4, rfl⟩ := fiveN hl
  obtain ⟨y0, y1, y2, y3, y4, rfl⟩ := fiveN (show xs.length = 5 from hlen)
  have e0 : DataW.trod enc Tryz.prog W base sp hd n 9 (([x0, x1, x2, x3, x4].drop 0).take (Tryz.prog.cellsOf 9)) = some y0 := hfld 0 _ rfl
  rw [cS] at e0
  have e1 : DataW.trod enc Tryz.prog W base sp hd n 9 (([x0, x1, x2, x3, x4].drop 1).take (Tryz.prog.cellsOf 9)) = some y1 := hfld 1 _ rfl
  rw [cS] at e1
  have e2 : DataW.trod enc Tryz.prog W base sp hd n 9 (([x0, x1, x2, x3, x4].drop 2).take (Tryz.prog.cellsOf 9)) = some y2 := hfld 2 _ rfl
  rw [cS] at e2
  have e3 : DataW.trod enc Tryz.prog W base sp hd n 4 (([x0, x1, x2, x3, x4].drop 3).take (Tryz.prog.cellsOf 4)) = some y3 := hfld 3 _ rfl
  rw [cB] at e3
  have e4 : DataW.trod enc Tryz.prog W base sp hd n 4 (([x0, x1, x2, x3, x4].drop 4).take (Tryz.prog.cellsOf 4)) = some y4 := hfld 4 _ rfl
  rw [cB] at e4
  obtain ⟨a0, rfl, z0⟩ := one_str (x := x0) (y := y0) e0
  obtain ⟨a1, rfl, z1⟩ := one_str (x := x1) (y := y1) e1
  obtain ⟨a2, rfl, z2⟩ := one_str (x := x2) (y := y2) e2
  obtain ⟨a3, rfl⟩ := one_bool (x := x3) (y := y3) e3
  obtain ⟨a4, rfl⟩ := one_bool (x := x4) (y := y4) e4
  have hb : Rows.uptoBulk x.1 = Rows.uptoBulk y0.1 + Rows.uptoBulk y1.1 + Rows.uptoBulk y2.1 + Rows.uptoBulk y3.1 + Rows.uptoBulk y4.1 + 1 := by
    rw [hx]
    simp only [List.map_cons, List.map_nil, Rows.uptoBulk, Rows.uptoBulkAll]
    omega
  have k0 := bulk_str (H := H) a0
  rw [← z0] at k0
  have k1 := bulk_str (H := H) a1
  rw [← z1] at k1
  have k2 := bulk_str (H := H) a2
  rw [← z2] at k2
  exact ⟨a0, a1, a2, a3, a4, rfl, by omega, by omega, by omega⟩
set_option maxRecDepth 100000 in
theorem nineN {α : Type} {l : List α} (h : l.length = 9) : ∃ x0 x1 x2 x3 x4 x5 x6 x7 x8, l = [x0, x1, x2, x3, x4, x5, x6, x7, x8] := by
  match l, h with
  | [x0, x1, x2, x3, x4, x5, x6, x7, x8], _ => exact ⟨x0, x1, x2, x3, x4, x5, x6, x7, x8, rfl⟩
set_option maxRecDepth 100000 in
theorem cr_trod {fuel base : Nat} {sp : Nat → Bool} {hd : Bool} {cs : List Value} {x : DataW H × List MemPlace} (hsp : ∀ b, sp b = true) (h : DataW.trod enc Tryz.prog W base sp hd fuel 23 cs = some x) :
    ∃ (a0 : ByteArray) (a1 : ByteArray) (a2 : ByteArray) (a3 : ByteArray) (a4 : ByteArray) (a5 : ByteArray) (a6 : ByteArray) (a7 : Int) (a8 : Bool), cs = [.string a0, .string a1, .string a2, .string a3, .string a4, .string a5, .string a6, .int .i64 a7, .bool a8] ∧ a0.size ≤ Rows.uptoBulk x.1 ∧ a1.size ≤ Rows.uptoBulk x.1 ∧ a2.size ≤ Rows.uptoBulk x.1 ∧ a3.size ≤ Rows.uptoBulk x.1 ∧ a4.size ≤ Rows.uptoBulk x.1 ∧ a5.size ≤ Rows.uptoBulk x.1 ∧ a6.size ≤ Rows.uptoBulk x.1 := by
  obtain ⟨xs, n, _, hx, hl, hlen, hfld⟩ := DataW.trod_struct Tryz.underlying23 h
  rw [c9c] at hl
  obtain ⟨x0, x1, x2, x3, x4, x5, x6, x7, x8, rfl⟩ := nineN hl
  obtain ⟨y0, y1, y2, y3, y4, y5, y6, y7, y8, rfl⟩ := nineN (show xs.length = 9 from hlen)
  have e0 : DataW.trod enc Tryz.prog W base sp hd n 9 (([x0, x1, x2, x3, x4, x5, x6, x7, x8].drop 0).take (Tryz.prog.cellsOf 9)) = some y0 := hfld 0 _ rfl
  rw [cS] at e0
  have e1 : DataW.trod enc Tryz.prog W base sp hd n 9 (([x0, x1, x2, x3, x4, x5, x6, x7, x8].drop 1).take (Tryz.prog.cellsOf 9)) = some y1 := hfld 1 _ rfl
  rw [cS] at e1
  have e2 : DataW.trod enc Tryz.prog W base sp hd n 9 (([x0, x1, x2, x3, x4, x5, x6, x7, x8].drop 2).take (Tryz.prog.cellsOf 9)) = some y2 := hfld 2 _ rfl
  rw [cS] at e2
  have e3 : DataW.trod enc Tryz.prog W base sp hd n 9 (([x0, x1, x2, x3, x4, x5, x6, x7, x8].drop 3).take (Tryz.prog.cellsOf 9)) = some y3 := hfld 3 _ rfl
  rw [cS] at e3
  have e4 : DataW.trod enc Tryz.prog W base sp hd n 9 (([x0, x1, x2, x3, x4, x5, x6, x7, x8].drop 4).take (Tryz.prog.cellsOf 9)) = some y4 := hfld 4 _ rfl
  rw [cS] at e4
  have e5 : DataW.trod enc Tryz.prog W base sp hd n 9 (([x0, x1, x2, x3, x4, x5, x6, x7, x8].drop 5).take (Tryz.prog.cellsOf 9)) = some y5 := hfld 5 _ rfl
  rw [cS] at e5
  have e6 : DataW.trod enc Tryz.prog W base sp hd n 9 (([x0, x1, x2, x3, x4, x5, x6, x7, x8].drop 6).take (Tryz.prog.cellsOf 9)) = some y6 := hfld 6 _ rfl
  rw [cS] at e6
  have e7 : DataW.trod enc Tryz.prog W base sp hd n 3 (([x0, x1, x2, x3, x4, x5, x6, x7, x8].drop 7).take (Tryz.prog.cellsOf 3)) = some y7 := hfld 7 _ rfl
  rw [cI] at e7
  have e8 : DataW.trod enc Tryz.prog W base sp hd n 4 (([x0, x1, x2, x3, x4, x5, x6, x7, x8].drop 8).take (Tryz.prog.cellsOf 4)) = some y8 := hfld 8 _ rfl
  rw [cB] at e8
  obtain ⟨a0, rfl, z0⟩ := one_str (x := x0) (y := y0) e0
  obtain ⟨a1, rfl, z1⟩ := one_str (x := x1) (y := y1) e1
  obtain ⟨a2, rfl, z2⟩ := one_str (x := x2) (y := y2) e2
  obtain ⟨a3, rfl, z3⟩ := one_str (x := x3) (y := y3) e3
  obtain ⟨a4, rfl, z4⟩ := one_str (x := x4) (y := y4) e4
  obtain ⟨a5, rfl, z5⟩ := one_str (x := x5) (y := y5) e5
  obtain ⟨a6, rfl, z6⟩ := one_str (x := x6) (y := y6) e6
  obtain ⟨a7, rfl⟩ := one_int (x := x7) (y := y7) e7
  obtain ⟨a8, rfl⟩ := one_bool (x := x8) (y := y8) e8
  have hb : Rows.uptoBulk x.1 = Rows.uptoBulk y0.1 + Rows.uptoBulk y1.1 + Rows.uptoBulk y2.1 + Rows.uptoBulk y3.1 + Rows.uptoBulk y4.1 + Rows.uptoBulk y5.1 + Rows.uptoBulk y6.1 + Rows.uptoBulk y7.1 + Rows.uptoBulk y8.1 + 1 := by
    rw [hx]
    simp only [List.map_cons, List.map_nil, Rows.uptoBulk, Rows.uptoBulkAll]
    omega
  have k0 := bulk_str (H := H) a0
  rw [← z0] at k0
  have k1 := bulk_str (H := H) a1
  rw [← z1] at k1
  have k2 := bulk_str (H := H) a2
  rw [← z2] at k2
  have k3 := bulk_str (H := H) a3
  rw [← z3] at k3
  have k4 := bulk_str (H := H) a4
  rw [← z4] at k4
  have k5 := bulk_str (H := H) a5
  rw [← z5] at k5
  have k6 := bulk_str (H := H) a6
  rw [← z6] at k6
  exact ⟨a0, a1, a2, a3, a4, a5, a6, a7, a8, rfl, by omega, by omega, by omega, by omega, by omega, by omega, by omega⟩
set_option maxRecDepth 100000 in
theorem sixN {α : Type} {l : List α} (h : l.length = 6) : ∃ x0 x1 x2 x3 x4 x5, l = [x0, x1, x2, x3, x4, x5] := by
  match l, h with
  | [x0, x1, x2, x3, x4, x5], _ => exact ⟨x0, x1, x2, x3, x4, x5, rfl⟩
set_option maxRecDepth 100000 in
theorem msg_trod {fuel base : Nat} {sp : Nat → Bool} {hd : Bool} {cs : List Value} {x : DataW H × List MemPlace} (hsp : ∀ b, sp b = true) (h : DataW.trod enc Tryz.prog W base sp hd fuel 41 cs = some x) :
    ∃ (a0 : ByteArray) (a1 : ByteArray) (a2 : Int) (a3 : ByteArray) (A4 : Option Addr) (n4 c4 : Nat) (l4 : List (ByteArray × ByteArray)) (A5 : Option Addr) (n5 c5 : Nat) (l5 : List Int), cs = [.string a0, .string a1, .int .i64 a2, .string a3, .slice A4 n4 c4, .slice A5 n5 c5] ∧ a0.size ≤ Rows.uptoBulk x.1 ∧ a1.size ≤ Rows.uptoBulk x.1 ∧ a3.size ≤ Rows.uptoBulk x.1 ∧ l4.length = n4 ∧ Rds W W.heap.size A4 (hds l4) ∧ n4 ≤ Rows.uptoBulk x.1 ∧ (∀ h ∈ l4, h.1.size ≤ Rows.uptoBulk x.1 ∧ h.2.size ≤ Rows.uptoBulk x.1) ∧ By l5 ∧ l5.length = n5 ∧ Bs W W.heap.size A5 l5 ∧ n5 ≤ Rows.uptoBulk x.1 ∧ (A5 = none → n5 = 0 ∧ c5 = 0) := by
  obtain ⟨xs, n, _, hx, hl, hlen, hfld⟩ := DataW.trod_struct Tryz.underlying41 h
  rw [c6m] at hl
  obtain ⟨x0, x1, x2, x3, x4, x5, rfl⟩ := sixN hl
  obtain ⟨y0, y1, y2, y3, y4, y5, rfl⟩ := sixN (show xs.length = 6 from hlen)
  have e0 : DataW.trod enc Tryz.prog W base sp hd n 9 (([x0, x1, x2, x3, x4, x5].drop 0).take (Tryz.prog.cellsOf 9)) = some y0 := hfld 0 _ rfl
  rw [cS] at e0
  have e1 : DataW.trod enc Tryz.prog W base sp hd n 9 (([x0, x1, x2, x3, x4, x5].drop 1).take (Tryz.prog.cellsOf 9)) = some y1 := hfld 1 _ rfl
  rw [cS] at e1
  have e2 : DataW.trod enc Tryz.prog W base sp hd n 3 (([x0, x1, x2, x3, x4, x5].drop 2).take (Tryz.prog.cellsOf 3)) = some y2 := hfld 2 _ rfl
  rw [cI] at e2
  have e3 : DataW.trod enc Tryz.prog W base sp hd n 9 (([x0, x1, x2, x3, x4, x5].drop 3).take (Tryz.prog.cellsOf 9)) = some y3 := hfld 3 _ rfl
  rw [cS] at e3
  have e4 : DataW.trod enc Tryz.prog W base sp hd n 39 (([x0, x1, x2, x3, x4, x5].drop 4).take (Tryz.prog.cellsOf 39)) = some y4 := hfld 4 _ rfl
  rw [cHs] at e4
  have e5 : DataW.trod enc Tryz.prog W base sp hd n 31 (([x0, x1, x2, x3, x4, x5].drop 5).take (Tryz.prog.cellsOf 31)) = some y5 := hfld 5 _ rfl
  rw [cYs] at e5
  obtain ⟨a0, rfl, z0⟩ := one_str (x := x0) (y := y0) e0
  obtain ⟨a1, rfl, z1⟩ := one_str (x := x1) (y := y1) e1
  obtain ⟨a2, rfl⟩ := one_int (x := x2) (y := y2) e2
  obtain ⟨a3, rfl, z3⟩ := one_str (x := x3) (y := y3) e3
  obtain ⟨A4, n4, c4, l4, rfl, u4, v4, w4, t4⟩ := hdrs_trod (v := x4) (y := y4) hsp e4
  obtain ⟨A5, n5, c5, l5, rfl, u5, v5, w5, t5, s5⟩ := bytesN_trod (v := x5) (y := y5) hsp e5
  have hb : Rows.uptoBulk x.1 = Rows.uptoBulk y0.1 + Rows.uptoBulk y1.1 + Rows.uptoBulk y2.1 + Rows.uptoBulk y3.1 + Rows.uptoBulk y4.1 + Rows.uptoBulk y5.1 + 1 := by
    rw [hx]
    simp only [List.map_cons, List.map_nil, Rows.uptoBulk, Rows.uptoBulkAll]
    omega
  have k0 := bulk_str (H := H) a0
  rw [← z0] at k0
  have k1 := bulk_str (H := H) a1
  rw [← z1] at k1
  have k3 := bulk_str (H := H) a3
  rw [← z3] at k3
  exact ⟨a0, a1, a2, a3, A4, n4, c4, l4, A5, n5, c5, l5, rfl, by omega, by omega, by omega, u4, v4, by omega, fun h hh => by have := t4 h hh; omega, u5, v5, w5, by omega, s5⟩
set_option maxRecDepth 100000 in
theorem fifteenN {α : Type} {l : List α} (h : l.length = 15) : ∃ x0 x1 x2 x3 x4 x5 x6 x7 x8 x9 x10 x11 x12 x13 x14, l = [x0, x1, x2, x3, x4, x5, x6, x7, x8, x9, x10, x11, x12, x13, x14] := by
  match l, h with
  | [x0, x1, x2, x3, x4, x5, x6, x7, x8, x9, x10, x11, x12, x13, x14], _ => exact ⟨x0, x1, x2, x3, x4, x5, x6, x7, x8, x9, x10, x11, x12, x13, x14, rfl⟩
theorem threeN {α : Type} {l : List α} (h : l.length = 3) : ∃ x0 x1 x2, l = [x0, x1, x2] := by
  match l, h with
  | [x0, x1, x2], _ => exact ⟨x0, x1, x2, rfl⟩
set_option linter.constructorNameAsVariable false
set_option maxRecDepth 100000 in
theorem msg_open (hv : Value.okWide Tryz.prog W .any b0 41 v) (h : DataW.Trod enc Tryz.prog W 0 (fun _ => true) true 41 v d p) :
    ∃ (ms uri rsn : ByteArray) (code : Int) (A : Option Addr) (n c : Nat) (l : List (ByteArray × ByteArray)) (B : Option Addr) (m e : Nat) (bs : List Int), v = .agg #[.string ms, .string uri, .int .i64 code, .string rsn, .slice A n c, .slice B m e] ∧
      ms.size ≤ Rows.uptoBulk d ∧ uri.size ≤ Rows.uptoBulk d ∧ rsn.size ≤ Rows.uptoBulk d ∧ l.length = n ∧ Rds W W.heap.size A (hds l) ∧ n ≤ Rows.uptoBulk d ∧ (∀ h ∈ l, h.1.size ≤ Rows.uptoBulk d ∧ h.2.size ≤ Rows.uptoBulk d) ∧ By bs ∧ bs.length = m ∧ Bs W W.heap.size B bs ∧ m ≤ Rows.uptoBulk d ∧ (B = none → m = 0 ∧ e = 0) := by
  obtain ⟨cs, rfl, hsz⟩ := okWide_struct Tryz.underlying41 hv
  obtain ⟨fuel, hf⟩ := h
  obtain ⟨a0, a1, a2, a3, A4, n4, c4, l4, A5, n5, c5, l5, hL, h0, h1, h2, h3, h4, h5, h6, h7, h8, h9, h10, h11⟩ := msg_trod (fun _ => rfl) hf
  refine ⟨a0, a1, a3, a2, A4, n4, c4, l4, A5, n5, c5, l5, ?_, h0, h1, h2, h3, h4, h5, h6, h7, h8, h9, h10, h11⟩
  congr 1
  apply Array.toList_inj.1
  exact hL
set_option maxRecDepth 100000 in
set_option maxHeartbeats 1000000 in
theorem ask_open (hv : Value.okWide Tryz.prog W .any b0 38 v) (h : DataW.Trod enc Tryz.prog W 0 (fun _ => true) true 38 v d p) :
    ∃ (rs ns os us ars ans ais aps cs aos pw : ByteArray) (ci cst g : Bool) (k : Int), v = .agg #[.string rs, .string ns, .string os, .bool ci, .bool cst, .string us, .string ars, .string ans, .string ais, .string aps, .string cs, .string aos, .int .i64 k, .bool g, .string pw] ∧
      rs.size ≤ Rows.uptoBulk d ∧ ns.size ≤ Rows.uptoBulk d ∧ os.size ≤ Rows.uptoBulk d ∧ us.size ≤ Rows.uptoBulk d ∧ cs.size ≤ Rows.uptoBulk d ∧ pw.size ≤ Rows.uptoBulk d := by
  obtain ⟨cs, rfl, hsz⟩ := okWide_struct Tryz.underlying38 hv
  obtain ⟨fuel, hf⟩ := h
  obtain ⟨xs, n, _, hx, hl, hlen, hfld⟩ := DataW.trod_struct Tryz.underlying38 hf
  rw [c15a] at hl
  obtain ⟨x0, x1, x2, x3, x4, x5, x6, x7, x8, x9, x10, x11, x12, x13, x14, hL⟩ := fifteenN hl
  obtain ⟨y0, y1, y2, rfl⟩ := threeN (show xs.length = 3 from hlen)
  have e0 : DataW.trod enc Tryz.prog W 0 (fun _ => true) true n 36 (((Value.agg cs).cells.toList.drop 0).take (Tryz.prog.cellsOf 36)) = some y0 := hfld 0 _ rfl
  have e1 : DataW.trod enc Tryz.prog W 0 (fun _ => true) true n 23 (((Value.agg cs).cells.toList.drop 5).take (Tryz.prog.cellsOf 23)) = some y1 := hfld 1 _ rfl
  have e2 : DataW.trod enc Tryz.prog W 0 (fun _ => true) true n 9 (((Value.agg cs).cells.toList.drop 14).take (Tryz.prog.cellsOf 9)) = some y2 := hfld 2 _ rfl
  rw [hL, c5c] at e0
  rw [hL, c9c] at e1
  rw [hL, cS] at e2
  obtain ⟨rs, ns, os, ci, cst, q0, h0, h1, h2⟩ := ch_trod (cs := [x0, x1, x2, x3, x4]) (fun _ => rfl) e0
  obtain ⟨us, ars, ans, ais, aps, co, aos, k, g, q1, h3, _, _, _, _, h4, _⟩ := cr_trod (cs := [x5, x6, x7, x8, x9, x10, x11, x12, x13]) (fun _ => rfl) e1
  obtain ⟨pw, q2, z2⟩ := one_str (x := x14) (y := y2) e2
  have k2 := bulk_str (H := H) pw
  rw [← z2] at k2
  have hb : Rows.uptoBulk d = Rows.uptoBulk y0.1 + Rows.uptoBulk y1.1 + Rows.uptoBulk y2.1 + 1 := by
    rw [Prod.mk.injEq] at hx
    rw [hx.1]
    simp only [List.map_cons, List.map_nil, Rows.uptoBulk, Rows.uptoBulkAll]
    omega
  simp only [List.cons.injEq, and_true] at q0 q1
  obtain ⟨rfl, rfl, rfl, rfl, rfl⟩ := q0
  obtain ⟨rfl, rfl, rfl, rfl, rfl, rfl, rfl, rfl, rfl⟩ := q1
  subst q2
  refine ⟨rs, ns, os, us, ars, ans, ais, aps, co, aos, pw, ci, cst, g, k, ?_, by omega, by omega, by omega, by omega, by omega, by omega⟩
  congr 1
  apply Array.toList_inj.1
  exact hL
end
end Go.Proofs.YtfhbpgickkibmaaGreatDoor
namespace Go.Proofs.YtfhbpgickkibmaaGreatDoor
open Go.ChangeShapes Go.WideShapes Go.ChangeAt Go.RowKit
open Go.ChangeMaps (open_string shut_string)

section
variable {H : Type} {enc : TypeId × Value → H} {W : World} {b0 : Nat} {v : Value} {d : DataW H} {p : List MemPlace}
theorem cAc2 : Tryz.prog.cellsOf 54 = 2 := by kernel_rfl
theorem cNc3 : Tryz.prog.cellsOf 76 = 3 := by kernel_rfl
theorem cNs1 : Tryz.prog.cellsOf 47 = 1 := by kernel_rfl
theorem cAs1 : Tryz.prog.cellsOf 50 = 1 := by kernel_rfl
theorem c5g : Tryz.prog.cellsOf 49 = 5 := by kernel_rfl
theorem c7d : Tryz.prog.cellsOf 52 = 7 := by kernel_rfl
theorem accts_trod {fuel : Nat} {base : Nat} {sp : Nat → Bool} {hd : Bool} {v : Value} {y : DataW H × List MemPlace} (hsp : ∀ b, sp b = true) (h : DataW.trod enc Tryz.prog W base sp hd fuel 50 [v] = some y) :
    ∃ (A : Option Addr) (n c : Nat) (l : List (ByteArray × ByteArray)), v = .slice A n c ∧ l.length = n ∧ Rds W W.heap.size A (hds l) ∧ n ≤ Rows.uptoBulk y.1 ∧ ∀ h ∈ l, h.1.size ≤ Rows.uptoBulk y.1 ∧ h.2.size ≤ Rows.uptoBulk y.1 := by
  rcases open_slice_fields Tryz.underlying50 Tryz.underlying54 (by kernel_rfl) cAc2 h with ⟨hcs, _⟩ | ⟨a, len, cap, m, D, Pl, hcs, _, hl, hm, hmm, hx, hi⟩
  · simp at hcs
    exact ⟨none, 0, 0, [], hcs, rfl, fun h => absurd h (by simp [hds]), Nat.zero_le _, fun h hh => absurd hh (by simp)⟩
  · simp at hcs
    subst hcs
    rw [if_pos (hsp _)] at hmm
    subst hmm
    have key : ∀ i, i < len → ∃ e : ByteArray × ByteArray, W.cell? (a.add (i * 2)) = some (.string e.1) ∧ W.cell? (a.add (i * 2 + 1)) = some (.string e.2) ∧ e.1.size + e.2.size + 3 = Rows.uptoBulk (D i) := by
      intro i hin
      obtain ⟨ys, n', hD, _, hyl, hf⟩ := hi i (by omega)
      obtain ⟨v0, y0, c0, g0, t0⟩ := hf 0 _ rfl
      obtain ⟨v1, y1, c1, g1, t1⟩ := hf 1 _ rfl
      obtain ⟨s0, rfl, z0⟩ := one_str t0
      obtain ⟨s1, rfl, z1⟩ := one_str t1
      refine ⟨(s0, s1), c0, c1, ?_⟩
      obtain ⟨p0, p1, rfl⟩ : ∃ p0 p1, ys = [p0, p1] := by
        match ys, hyl with
        | [p0, p1], _ => exact ⟨p0, p1, rfl⟩
      obtain rfl : p0 = y0 := by simpa using g0
      obtain rfl : p1 = y1 := by simpa using g1
      rw [hD]
      simp only [List.map_cons, List.map_nil, Rows.uptoBulk, Rows.uptoBulkAll, z0, z1]
      simp
      omega
    obtain ⟨l, hll, hr⟩ := list_of len key
    have hy : Rows.uptoBulk y.1 = Rows.uptoBulkAll ((List.range len).map D) + Rows.uptoBulkAll ((List.range (m - len)).map fun j => D (len + j)) + 1 := by rw [hx]; rfl
    have hd : ∀ d ∈ (List.range len).map D, 1 ≤ Rows.uptoBulk d := fun d hd => by
      obtain ⟨i, hi1, rfl⟩ := List.mem_map.1 hd
      obtain ⟨e, _, _, h3⟩ := key i (by simpa using hi1)
      omega
    have hn := bulk_len hd
    rw [List.length_map, List.length_range] at hn
    refine ⟨some a, len, m, l, rfl, hll, fun h0 => ?_, by omega, fun h hh => ?_⟩
    · rw [hds_len, hll] at h0
      obtain ⟨e, c0, _⟩ := key 0 (by omega)
      obtain ⟨b, o, sp'⟩ := a
      have hsp' : sp' = none := by
        cases sp' with
        | none => rfl
        | some s => simp [Addr.add, World.cell?] at c0; split at c0 <;> simp at c0
      subst hsp'
      refine ⟨b, o, rfl, by simpa [Addr.add] using World.block_lt_of_cell? W _ c0, fun j u hu => ?_⟩
      have hj := (List.getElem?_eq_some_iff.1 hu).1
      rw [hds_len, hll] at hj
      obtain ⟨q, hq⟩ : ∃ q, l[j / 2]? = some q := ⟨_, List.getElem?_eq_getElem (by omega)⟩
      obtain ⟨q0, q1, _⟩ := hr (j / 2) q hq
      rw [Addr.add_mid] at q0 q1
      rcases Nat.mod_two_eq_zero_or_one j with hj2 | hj2
      · have h4 := hds_at hq 0 _ rfl
        rw [show j / 2 * 2 + 0 = j by omega, hu] at h4
        cases h4
        rwa [show o + j / 2 * 2 = o + j by omega] at q0
      · have h4 := hds_at hq 1 _ rfl
        rw [show j / 2 * 2 + 1 = j by omega, hu] at h4
        cases h4
        rwa [show o + (j / 2 * 2 + 1) = o + j by omega] at q1
    · obtain ⟨i, hi1⟩ := List.mem_iff_getElem?.1 hh
      obtain ⟨_, _, h3⟩ := hr i h hi1
      have hi2 : i < len := by rw [← hll]; exact (List.getElem?_eq_some_iff.1 hi1).1
      have h4 := bulk_mem (List.mem_map.2 ⟨i, by simpa using hi2, rfl⟩ : D i ∈ (List.range len).map D)
      exact ⟨by omega, by omega⟩
theorem ncs_trod {fuel : Nat} {base : Nat} {sp : Nat → Bool} {hd : Bool} {v : Value} {y : DataW H × List MemPlace} (hsp : ∀ b, sp b = true) (h : DataW.trod enc Tryz.prog W base sp hd fuel 47 [v] = some y) :
    ∃ (A : Option Addr) (n c : Nat) (l : List Nce), v = .slice A n c ∧ l.length = n ∧ Rds W W.heap.size A (ncs l) ∧ n ≤ Rows.uptoBulk y.1 ∧ (A = none → n = 0 ∧ c = 0) := by
  rcases open_slice_fields Tryz.underlying47 Tryz.underlying76 (by kernel_rfl) cNc3 h with ⟨hcs, _⟩ | ⟨a, len, cap, m, D, Pl, hcs, _, hl, hm, hmm, hx, hi⟩
  · simp at hcs
    exact ⟨none, 0, 0, [], hcs, rfl, fun h => absurd h (by simp [ncs]), Nat.zero_le _, fun _ => ⟨rfl, rfl⟩⟩
  · simp at hcs
    subst hcs
    rw [if_pos (hsp _)] at hmm
    subst hmm
    have key : ∀ i, i < len → ∃ e : Nce, W.cell? (a.add (i * 3)) = some (.string e.v) ∧ W.cell? (a.add (i * 3 + 1)) = some (.int .i64 e.a) ∧ W.cell? (a.add (i * 3 + 2)) = some (.int .i64 e.k) ∧ 1 ≤ Rows.uptoBulk (D i) := by
      intro i hin
      obtain ⟨ys, n', hD, _, hyl, hf⟩ := hi i (by omega)
      obtain ⟨v0, y0, c0, g0, t0⟩ := hf 0 _ rfl
      obtain ⟨v1, y1, c1, g1, t1⟩ := hf 1 _ rfl
      obtain ⟨v2, y2, c2, g2, t2⟩ := hf 2 _ rfl
      obtain ⟨s0, rfl, z0⟩ := one_str t0
      obtain ⟨s1, rfl⟩ := one_int t1
      obtain ⟨s2, rfl⟩ := one_int t2
      refine ⟨⟨s0, s1, s2⟩, c0, c1, c2, ?_⟩
      rw [hD]
      simp only [Rows.uptoBulk]
      omega
    obtain ⟨l, hll, hr⟩ := list_of len key
    have hy : Rows.uptoBulk y.1 = Rows.uptoBulkAll ((List.range len).map D) + Rows.uptoBulkAll ((List.range (m - len)).map fun j => D (len + j)) + 1 := by rw [hx]; rfl
    have hd : ∀ d ∈ (List.range len).map D, 1 ≤ Rows.uptoBulk d := fun d hd => by
      obtain ⟨i, hi1, rfl⟩ := List.mem_map.1 hd
      obtain ⟨e, _, _, _, h3⟩ := key i (by simpa using hi1)
      exact h3
    have hn := bulk_len hd
    rw [List.length_map, List.length_range] at hn
    refine ⟨some a, len, m, l, rfl, hll, fun h0 => ?_, by omega, fun h => by cases h⟩
    rw [ncs_len, hll] at h0
    obtain ⟨e, c0, _⟩ := key 0 (by omega)
    obtain ⟨b, o, sp'⟩ := a
    have hsp' : sp' = none := by
      cases sp' with
      | none => rfl
      | some s => simp [Addr.add, World.cell?] at c0; split at c0 <;> simp at c0
    subst hsp'
    refine ⟨b, o, rfl, by simpa [Addr.add] using World.block_lt_of_cell? W _ c0, fun j u hu => ?_⟩
    have hj := (List.getElem?_eq_some_iff.1 hu).1
    rw [ncs_len, hll] at hj
    obtain ⟨q, hq⟩ : ∃ q, l[j / 3]? = some q := ⟨_, List.getElem?_eq_getElem (by omega)⟩
    obtain ⟨q0, q1, q2, _⟩ := hr (j / 3) q hq
    rw [Addr.add_mid] at q0 q1 q2
    rcases (show j % 3 = 0 ∨ j % 3 = 1 ∨ j % 3 = 2 by omega) with hj2 | hj2 | hj2
    · have h4 := ncs_at hq 0 _ rfl
      rw [show j / 3 * 3 + 0 = j by omega, hu] at h4
      cases h4
      rwa [show o + j / 3 * 3 = o + j by omega] at q0
    · have h4 := ncs_at hq 1 _ rfl
      rw [show j / 3 * 3 + 1 = j by omega, hu] at h4
      cases h4
      rwa [show o + (j / 3 * 3 + 1) = o + j by omega] at q1
    · have h4 := ncs_at hq 2 _ rfl
      rw [show j / 3 * 3 + 2 = j by omega, hu] at h4
      cases h4
      rwa [show o + (j / 3 * 3 + 2) = o + j by omega] at q2
set_option maxRecDepth 100000 in
theorem guard_trod {fuel base : Nat} {sp : Nat → Bool} {hd : Bool} {cs : List Value} {x : DataW H × List MemPlace} (hsp : ∀ b, sp b = true) (h : DataW.trod enc Tryz.prog W base sp hd fuel 49 cs = some x) :
    ∃ (re ke : ByteArray) (life iss : Int) (A : Option Addr) (n c : Nat) (l : List Nce), cs = [.string re, .string ke, .int .i64 life, .int .i64 iss, .slice A n c] ∧ re.size ≤ Rows.uptoBulk x.1 ∧ ke.size ≤ Rows.uptoBulk x.1 ∧ l.length = n ∧ Rds W W.heap.size A (ncs l) ∧ n ≤ Rows.uptoBulk x.1 ∧ (A = none → n = 0 ∧ c = 0) := by
  obtain ⟨xs, n, _, hx, hl, hlen, hfld⟩ := DataW.trod_struct Tryz.underlying49 h
  rw [c5g] at hl
  obtain ⟨x0, x1, x2, x3, x4, rfl⟩ := fiveN hl
  obtain ⟨y0, y1, y2, y3, y4, rfl⟩ := fiveN (show xs.length = 5 from hlen)
  have e0 : DataW.trod enc Tryz.prog W base sp hd n 9 (([x0, x1, x2, x3, x4].drop 0).take (Tryz.prog.cellsOf 9)) = some y0 := hfld 0 _ rfl
  rw [cS] at e0
  have e1 : DataW.trod enc Tryz.prog W base sp hd n 9 (([x0, x1, x2, x3, x4].drop 1).take (Tryz.prog.cellsOf 9)) = some y1 := hfld 1 _ rfl
  rw [cS] at e1
  have e2 : DataW.trod enc Tryz.prog W base sp hd n 3 (([x0, x1, x2, x3, x4].drop 2).take (Tryz.prog.cellsOf 3)) = some y2 := hfld 2 _ rfl
  rw [cI] at e2
  have e3 : DataW.trod enc Tryz.prog W base sp hd n 3 (([x0, x1, x2, x3, x4].drop 3).take (Tryz.prog.cellsOf 3)) = some y3 := hfld 3 _ rfl
  rw [cI] at e3
  have e4 : DataW.trod enc Tryz.prog W base sp hd n 47 (([x0, x1, x2, x3, x4].drop 4).take (Tryz.prog.cellsOf 47)) = some y4 := hfld 4 _ rfl
  rw [cNs1] at e4
  obtain ⟨re, rfl, z0⟩ := one_str (x := x0) (y := y0) e0
  obtain ⟨ke, rfl, z1⟩ := one_str (x := x1) (y := y1) e1
  obtain ⟨life, rfl⟩ := one_int (x := x2) (y := y2) e2
  obtain ⟨iss, rfl⟩ := one_int (x := x3) (y := y3) e3
  obtain ⟨A, m, c, l, rfl, u0, u1, u2, u3⟩ := ncs_trod (v := x4) (y := y4) hsp e4
  have hb : Rows.uptoBulk x.1 = Rows.uptoBulk y0.1 + Rows.uptoBulk y1.1 + Rows.uptoBulk y2.1 + Rows.uptoBulk y3.1 + Rows.uptoBulk y4.1 + 1 := by
    rw [hx]
    simp only [List.map_cons, List.map_nil, Rows.uptoBulk, Rows.uptoBulkAll]
    omega
  have k0 := bulk_str (H := H) re
  rw [← z0] at k0
  have k1 := bulk_str (H := H) ke
  rw [← z1] at k1
  exact ⟨re, ke, life, iss, A, m, c, l, rfl, by omega, by omega, u0, u1, by omega, u3⟩
theorem sevenN {α : Type} {l : List α} (h : l.length = 7) : ∃ x0 x1 x2 x3 x4 x5 x6, l = [x0, x1, x2, x3, x4, x5, x6] := by
  match l, h with
  | [x0, x1, x2, x3, x4, x5, x6], _ => exact ⟨x0, x1, x2, x3, x4, x5, x6, rfl⟩
set_option linter.constructorNameAsVariable false
set_option maxRecDepth 100000 in
theorem desk_open (hv : Value.okWide Tryz.prog W .any b0 52 v) (h : DataW.Trod enc Tryz.prog W 0 (fun _ => true) true 52 v d p) :
    ∃ (re ke : ByteArray) (life iss now : Int) (A : Option Addr) (n c : Nat) (l : List Nce) (U : Option Addr) (un uc : Nat) (us : List (ByteArray × ByteArray)), v = .agg #[.string re, .string ke, .int .i64 life, .int .i64 iss, .slice A n c, .slice U un uc, .int .i64 now] ∧
      re.size ≤ Rows.uptoBulk d ∧ ke.size ≤ Rows.uptoBulk d ∧ l.length = n ∧ Rds W W.heap.size A (ncs l) ∧ n ≤ Rows.uptoBulk d ∧ (A = none → n = 0 ∧ c = 0) ∧ us.length = un ∧ Rds W W.heap.size U (hds us) ∧ un ≤ Rows.uptoBulk d ∧ (∀ h ∈ us, h.2.size ≤ Rows.uptoBulk d) := by
  obtain ⟨cs, rfl, hsz⟩ := okWide_struct Tryz.underlying52 hv
  obtain ⟨fuel, hf⟩ := h
  obtain ⟨xs, n, _, hx, hl, hlen, hfld⟩ := DataW.trod_struct Tryz.underlying52 hf
  rw [c7d] at hl
  obtain ⟨x0, x1, x2, x3, x4, x5, x6, hL⟩ := sevenN hl
  obtain ⟨y0, y1, y2, rfl⟩ := threeN (show xs.length = 3 from hlen)
  have e0 : DataW.trod enc Tryz.prog W 0 (fun _ => true) true n 49 (((Value.agg cs).cells.toList.drop 0).take (Tryz.prog.cellsOf 49)) = some y0 := hfld 0 _ rfl
  have e1 : DataW.trod enc Tryz.prog W 0 (fun _ => true) true n 50 (((Value.agg cs).cells.toList.drop 5).take (Tryz.prog.cellsOf 50)) = some y1 := hfld 1 _ rfl
  have e2 : DataW.trod enc Tryz.prog W 0 (fun _ => true) true n 3 (((Value.agg cs).cells.toList.drop 6).take (Tryz.prog.cellsOf 3)) = some y2 := hfld 2 _ rfl
  rw [hL, c5g] at e0
  rw [hL, cAs1] at e1
  rw [hL, cI] at e2
  obtain ⟨re, ke, life, iss, A, m, c, l, q0, h0, h1, h2, h3, h4, h5⟩ := guard_trod (cs := [x0, x1, x2, x3, x4]) (fun _ => rfl) e0
  obtain ⟨U, un, uc, us, rfl, g1, g2, g3, g4⟩ := accts_trod (v := x5) (y := y1) (fun _ => rfl) e1
  obtain ⟨now, rfl⟩ := one_int (x := x6) (y := y2) e2
  have hb : Rows.uptoBulk d = Rows.uptoBulk y0.1 + Rows.uptoBulk y1.1 + Rows.uptoBulk y2.1 + 1 := by
    rw [Prod.mk.injEq] at hx
    rw [hx.1]
    simp only [List.map_cons, List.map_nil, Rows.uptoBulk, Rows.uptoBulkAll]
    omega
  simp only [List.cons.injEq, and_true] at q0
  obtain ⟨rfl, rfl, rfl, rfl, rfl⟩ := q0
  refine ⟨re, ke, life, iss, now, A, m, c, l, U, un, uc, us, ?_, by omega, by omega, h2, h3, by omega, h5, g1, g2, by omega, fun h hh => by have := (g4 h hh).2; omega⟩
  congr 1
  apply Array.toList_inj.1
  exact hL
end
end Go.Proofs.YtfhbpgickkibmaaGreatDoor
namespace Go.Proofs.YtfhbpgickkibmaaGreatDoor
open Go.ChangeShapes Go.WideShapes Go.ChangeAt Go.RowKit

def LDi : List (String × DataW Unit) := [("math/bits.deBruijn32tab", Rows.laid_math_bits_deBruijn32tab), ("math/bits.deBruijn64tab", Rows.laid_math_bits_deBruijn64tab), ("dialtone/hash.constants", Rows.laid_dialtone_hash_constants), ("internal/strconv.uint64pow10", Rows.laid_internal_strconv_uint64pow10), ("unicode/utf8.acceptRanges", Rows.laid_unicode_utf8_acceptRanges), ("unicode/utf8.first", Rows.laid_unicode_utf8_first)]
def LDs : List (String × DataW Unit) := [("math/bits.deBruijn32tab", Rows.laid_math_bits_deBruijn32tab), ("math/bits.deBruijn64tab", Rows.laid_math_bits_deBruijn64tab), ("dialtone/hash.constants", Rows.laid_dialtone_hash_constants), ("internal/strconv.uint64pow10", Rows.laid_internal_strconv_uint64pow10), ("unicode/utf8.acceptRanges", Rows.laid_unicode_utf8_acceptRanges), ("dialtone/header.specials", Rows.laid_dialtone_header_specials), ("unicode/utf8.first", Rows.laid_unicode_utf8_first)]
theorem gPow : Tryz.prog.globalNamed "internal/strconv.uint64pow10" = some 2 := by kernel_rfl
theorem tPow : (Tryz.prog.globals[2]?).map (·.type) = some 214 := by kernel_rfl
theorem cU64 : Tryz.prog.cellsOf 151 = 1 := by kernel_rfl
theorem cA20 : Tryz.prog.cellsOf 214 = 20 := by kernel_rfl
theorem PT_of_met {W : World} {rest : List (String × DataW Unit)} (h : laidMet Tryz.prog (("internal/strconv.uint64pow10", Rows.laid_internal_strconv_uint64pow10) :: rest) W) : PT W := by
  have h1 : laidMet Tryz.prog (("internal/strconv.uint64pow10", Lib.tabData .u64 Lib.pow10Tab) :: rest) W := h
  exact Lib.tabIs_of_head gPow tPow Tryz.underlying214 Tryz.underlying151 cU64 cA20 h1
theorem door_met_i (os : Os) (args : Array Value) : laidMetH Tryz.prog LDi ((laidWorld os).forCall (fun _ _ => 0) ⟨#[], args, []⟩).memory :=
  laidMetH_of_parts3 (fuel := 8) (laidMet_of_run' 8 (by kernel_rfl) (by kernel_rfl)) (by kernel_rfl) (by kernel_rfl)
theorem KC_of_i {W : World} (h : laidMetH Tryz.prog LDi W) : KC W := by
  rw [MakeChecks.laidMetH_plain _ _ _ (by kernel_rfl)] at h
  exact KC_of_met (laidMet.tail (laidMet.tail h))
theorem PT_of_i {W : World} (h : laidMetH Tryz.prog LDi W) : PT W := by
  rw [MakeChecks.laidMetH_plain _ _ _ (by kernel_rfl)] at h
  exact PT_of_met (laidMet.tail (laidMet.tail (laidMet.tail h)))
theorem door_met_s (os : Os) (args : Array Value) : laidMetH Tryz.prog LDs ((laidWorld os).forCall (fun _ _ => 0) ⟨#[], args, []⟩).memory :=
  laidMetH_of_parts3 (fuel := 8) (laidMet_of_run' 8 (by kernel_rfl) (by kernel_rfl)) (by kernel_rfl) (by kernel_rfl)
theorem KC_of_s {W : World} (h : laidMetH Tryz.prog LDs W) : KC W := by
  rw [MakeChecks.laidMetH_plain _ _ _ (by kernel_rfl)] at h
  exact KC_of_met (laidMet.tail (laidMet.tail h))
theorem PT_of_s {W : World} (h : laidMetH Tryz.prog LDs W) : PT W := by
  rw [MakeChecks.laidMetH_plain _ _ _ (by kernel_rfl)] at h
  exact PT_of_met (laidMet.tail (laidMet.tail (laidMet.tail h)))
section
variable {H : Type} {enc : TypeId × Value → H} {W : World} {b0 : Nat} {v : Value} {d : DataW H} {p : List MemPlace}
set_option linter.constructorNameAsVariable false
set_option maxRecDepth 100000 in
theorem guard_open (hv : Value.okWide Tryz.prog W .any b0 49 v) (h : DataW.Trod enc Tryz.prog W 0 (fun _ => true) true 49 v d p) :
    ∃ (re ke : ByteArray) (life iss : Int) (A : Option Addr) (n c : Nat) (l : List Nce), v = .agg #[.string re, .string ke, .int .i64 life, .int .i64 iss, .slice A n c] ∧ re.size ≤ Rows.uptoBulk d ∧ ke.size ≤ Rows.uptoBulk d ∧ l.length = n ∧ Rds W W.heap.size A (ncs l) ∧ n ≤ Rows.uptoBulk d ∧ (A = none → n = 0 ∧ c = 0) := by
  obtain ⟨cs, rfl, hsz⟩ := okWide_struct Tryz.underlying49 hv
  obtain ⟨fuel, hf⟩ := h
  obtain ⟨re, ke, life, iss, A, m, c, l, q0, h0, h1, h2, h3, h4, h5⟩ := guard_trod (fun _ => rfl) hf
  refine ⟨re, ke, life, iss, A, m, c, l, ?_, h0, h1, h2, h3, h4, h5⟩
  congr 1
  apply Array.toList_inj.1
  exact q0
end
end Go.Proofs.YtfhbpgickkibmaaGreatDoor
namespace Go.Proofs.YtfhbpgickkibmaaGreatDoor
open Go.ChangeShapes Go.WideShapes Go.ChangeAt Go.RowKit

theorem SC_of_s {W : World} (h : laidMetH Tryz.prog LDs W) : SC W := by
  rw [MakeChecks.laidMetH_plain _ _ _ (by kernel_rfl)] at h
  exact SC_of_head (laidMet.tail (laidMet.tail (laidMet.tail (laidMet.tail (laidMet.tail h)))))
section
variable {H : Type} {enc : TypeId × Value → H} {W : World} {b0 : Nat} {v : Value} {d : DataW H} {p : List MemPlace}
theorem wf_u32 {x : Int} (h : (Lit.int .u32 x).wf = true) : 0 ≤ x ∧ x ≤ 4294967295 := by
  have e1 : IntKind.u32.min = 0 := rfl
  have e2 : IntKind.u32.max = 4294967295 := rfl
  simp [Lit.wf] at h
  omega
theorem words_trod {fuel : Nat} {base : Nat} {sp : Nat → Bool} {hd : Bool} {v : Value} {y : DataW H × List MemPlace} (hsp : ∀ b, sp b = true) (h : DataW.trod enc Tryz.prog W base sp hd fuel 71 [v] = some y) :
    ∃ (A : Option Addr) (n c : Nat) (xs : List Int), v = .slice A n c ∧ (∀ x ∈ xs, 0 ≤ x ∧ x ≤ 4294967295) ∧ xs.length = n ∧ Ws W W.heap.size A xs ∧ n ≤ Rows.uptoBulk y.1 := by
  rcases open_ints Tryz.underlying71 Tryz.underlying72 cU32 h with ⟨h1, h2⟩ | ⟨a, len, cap, zs, h1, _, h3, _, h5, h6, h7, h8⟩
  · simp at h1
    subst h1
    exact ⟨none, 0, 0, [], rfl, fun x hx => absurd hx (by simp), rfl, fun h => absurd h (by simp), Nat.zero_le _⟩
  · simp at h1
    subst h1
    rw [if_pos (hsp _)] at h5
    have hl : (zs.take len).length = len := by rw [List.length_take]; omega
    refine ⟨some a, len, cap, zs.take len, rfl, fun x hx => wf_u32 (h8 x (List.mem_of_mem_take hx)), hl, fun h0 => ?_, ?_⟩
    · refine ⟨a, rfl, ?_, fun j x hj => ?_⟩
      · have := block_lt_of_cell (h7 0 (by omega))
        rwa [add_block] at this
      · have hj' : j < len := by have := (List.getElem?_eq_some_iff.1 hj).1; omega
        rw [h7 j (by omega)]
        rw [List.getElem?_take, if_pos hj'] at hj
        rw [List.getD_eq_getElem?_getD, hj]; rfl
    · rw [h6]
      simp only [Rows.uptoBulk, bulk_lits, hl]
      omega
set_option linter.constructorNameAsVariable false
set_option maxRecDepth 100000 in
theorem words_open (hv : Value.okWide Tryz.prog W .any b0 71 v) (h : DataW.Trod enc Tryz.prog W 0 (fun _ => true) true 71 v d p) :
    ∃ (A : Option Addr) (n c : Nat) (xs : List Int), v = .slice A n c ∧ (∀ x ∈ xs, 0 ≤ x ∧ x ≤ 4294967295) ∧ xs.length = n ∧ Ws W W.heap.size A xs ∧ n ≤ Rows.uptoBulk d := by
  obtain ⟨A, n, c, rfl⟩ := okWide_slice Tryz.underlying71 hv
  obtain ⟨fuel, hf⟩ := h
  exact words_trod (fun _ => rfl) hf
end
end Go.Proofs.YtfhbpgickkibmaaGreatDoor
