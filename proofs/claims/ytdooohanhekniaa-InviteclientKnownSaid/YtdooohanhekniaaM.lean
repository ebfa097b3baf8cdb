/- The contract of inviteclient.Step. -/
import Derived.Test.YtdooohanhekniaaK
import Derived.Laws.EntriesVeiled
namespace Go.Proofs.Ytdooohanhekniaa
open Go.RowKit

set_option maxHeartbeats 2000000 in
theorem step_no (s wt c k ic t : Int) (w : World) (hm : mayB s wt c = false) :
    Calls Try.prog 24 #[.agg #[.int .u8 s, .int .i64 wt, .int .i64 c], .agg #[.int .u8 k, .int .i64 ic, .int .u8 t]] w (RetMO w ⟨0, 0, 0⟩ []) := by
  go_enter Try.func24, Try.ntmps24
  go_wp2_with (go_at_call 14; refine (may_any _ _ _ _).mono ?_; rintro e w' ⟨rfl, rfl⟩)
  refine bodyPost_ret (v := .tuple #[.agg #[.int .u8 0, .int .i64 0, .int .i64 0], .slice none 0 0]) (by simp [results, Try.results24, go_sem]) rfl ⟨_, rfl, ?_, ?_⟩
  · exact Outs.none_ _ _
  · repeat (first | exact Below.refl _ _ | refine Below.al _ (by simp; try omega) ?_ | refine Below.drew ?_)

/-- What is known of memory in Step: the boxes of the arguments and of the first result. -/
structure SI (w : World) (s wt c k ic t : Int) (cur : World) : Prop where
  lt : w.heap.size + 1 + 1 + 1 < cur.heap.size
  m : cur.cell? ⟨w.heap.size, 0, none⟩ = some (.int .u8 s) ∧ cur.cell? ⟨w.heap.size, 1, none⟩ = some (.int .i64 wt) ∧ cur.cell? ⟨w.heap.size, 2, none⟩ = some (.int .i64 c)
  i : cur.cell? ⟨w.heap.size + 1, 0, none⟩ = some (.int .u8 k) ∧ cur.cell? ⟨w.heap.size + 1, 1, none⟩ = some (.int .i64 ic) ∧ cur.cell? ⟨w.heap.size + 1, 2, none⟩ = some (.int .u8 t)
  r : cur.cell? ⟨w.heap.size + 1 + 1, 0, none⟩ = some (.int .u8 0) ∧ cur.cell? ⟨w.heap.size + 1 + 1, 1, none⟩ = some (.int .i64 0) ∧ cur.cell? ⟨w.heap.size + 1 + 1, 2, none⟩ = some (.int .i64 0)
  f : cur.frozen? ⟨w.heap.size + 1 + 1, 0, none⟩ = false ∧ cur.frozen? ⟨w.heap.size + 1 + 1, 1, none⟩ = false ∧ cur.frozen? ⟨w.heap.size + 1 + 1, 2, none⟩ = false
  below : Below w.heap.size w cur
theorem SI.call {w cur w1 : World} {s wt c k ic t : Int} (h : SI w s wt c k ic t cur) (hb : Below cur.heap.size cur w1) : SI w s wt c k ic t w1 := by
  obtain ⟨h0, ⟨m0, m1, m2⟩, ⟨i0, i1, i2⟩, ⟨r0, r1, r2⟩, ⟨f0, f1, f2⟩, hbl⟩ := h
  have hc : ∀ b o, b ≤ w.heap.size + 1 + 1 → w1.cell? ⟨b, o, none⟩ = cur.cell? ⟨b, o, none⟩ := fun b o hb' => hb.cell (p := ⟨b, o, none⟩) (by simp; omega)
  have hf : ∀ b o, b ≤ w.heap.size + 1 + 1 → w1.frozen? ⟨b, o, none⟩ = cur.frozen? ⟨b, o, none⟩ := fun b o hb' => hb.frozen (p := ⟨b, o, none⟩) (by simp; omega)
  refine ⟨Nat.lt_of_lt_of_le h0 hb.size, ⟨?_, ?_, ?_⟩, ⟨?_, ?_, ?_⟩, ⟨?_, ?_, ?_⟩, ⟨?_, ?_, ?_⟩, hbl.trans (hb.mono (by omega))⟩
  all_goals first | (rw [hc _ _ (by omega)]; assumption) | (rw [hf _ _ (by omega)]; assumption)
theorem SI.alloc {w cur : World} {s wt c k ic t : Int} (h : SI w s wt c k ic t cur) (o : Obj) : SI w s wt c k ic t (cur.alloc o) := h.call ((Below.refl _ _).alloc (Nat.le_refl _) o)

theorem TabSet.alloc {w : World} {r : Nat} {S : List Row} (h : TabSet w r S) (o : Obj) : TabSet (w.alloc o) r S := h.below ((Below.refl _ _).alloc (Nat.le_refl _) o)
theorem SI.set {w cur : World} {s wt c k ic t : Int} (h : SI w s wt c k ic t cur) {p : Addr} (hp : w.heap.size + 1 + 1 + 1 ≤ p.block) (u : Value) : SI w s wt c k ic t (cur.setCell p u) := by
  obtain ⟨h0, ⟨m0, m1, m2⟩, ⟨i0, i1, i2⟩, ⟨r0, r1, r2⟩, ⟨f0, f1, f2⟩, hbl⟩ := h
  have hc : ∀ b o, b ≤ w.heap.size + 1 + 1 → (cur.setCell p u).cell? ⟨b, o, none⟩ = cur.cell? ⟨b, o, none⟩ := fun b o hb' => World.cell?_setCell_other cur p ⟨b, o, none⟩ u (fun e => by subst e; simp at hp; omega)
  have hf : ∀ b o, b ≤ w.heap.size + 1 + 1 → (cur.setCell p u).frozen? ⟨b, o, none⟩ = cur.frozen? ⟨b, o, none⟩ := fun b o hb' => by
    exact World.frozen?_of_block (Below.heap_setCell cur p u b (by omega))
  refine ⟨by simpa [World.setCell] using h0, ⟨?_, ?_, ?_⟩, ⟨?_, ?_, ?_⟩, ⟨?_, ?_, ?_⟩, ⟨?_, ?_, ?_⟩, hbl.setCell (by omega) u⟩
  all_goals first | (rw [hc _ _ (by omega)]; assumption) | (rw [hf _ _ (by omega)]; assumption)
theorem SI.set4 {w cur : World} {s wt c k ic t : Int} (h : SI w s wt c k ic t cur) {b : Nat} (hp : w.heap.size + 1 + 1 + 1 < b) (u0 u1 u2 u3 : Value) :
    SI w s wt c k ic t ((((cur.setCell ⟨b, 0, none⟩ u0).setCell ⟨b, 1, none⟩ u1).setCell ⟨b, 2, none⟩ u2).setCell ⟨b, 3, none⟩ u3) :=
  (((h.set (by simp; omega) _).set (by simp; omega) _).set (by simp; omega) _).set (by simp; omega) _
/-- Block b is a new variable of the type row. -/
def NewRow (w : World) (b : Nat) : Prop := w.heap[b]? = some (.cells #[.int .u8 0, .int .i64 0, .int .i64 0, .nilFunc] 67 (0, 0))
theorem NewRow.new (w : World) : NewRow (w.alloc (.cells #[.int .u8 0, .int .i64 0, .int .i64 0, .nilFunc] 67)) w.heap.size := heap_alloc_new w _
theorem NewRow.lt {w : World} {b : Nat} (h : NewRow w b) : b < w.heap.size := by
  rcases Nat.lt_or_ge b w.heap.size with h1 | h1
  · exact h1
  · unfold NewRow at h; rw [Array.getElem?_eq_none h1] at h; cases h
theorem NewRow.below {w w1 : World} {b : Nat} (h : NewRow w b) (hb : Below w.heap.size w w1) : NewRow w1 b := (hb.block b h.lt).trans h
theorem NewRow.drew {w : World} {b : Nat} (h : NewRow w b) : NewRow w.drew b := h
theorem NewRow.cell {w : World} {b : Nat} (h : NewRow w b) (o : Nat) : w.cell? ⟨b, o, none⟩ = (#[.int .u8 0, .int .i64 0, .int .i64 0, .nilFunc] : Array Value)[o]? := cell_of_row w b o _ 67 (0, 0) h
theorem NewRow.cells {w : World} {b : Nat} (h : NewRow w b) : (w.cell? ⟨b, 0, none⟩ = some (.int .u8 0) ∧ w.cell? ⟨b, 1, none⟩ = some (.int .i64 0) ∧ w.cell? ⟨b, 2, none⟩ = some (.int .i64 0) ∧ w.cell? ⟨b, 3, none⟩ = some .nilFunc) ∧
    (w.frozen? ⟨b, 0, none⟩ = false ∧ w.frozen? ⟨b, 1, none⟩ = false ∧ w.frozen? ⟨b, 2, none⟩ = false ∧ w.frozen? ⟨b, 3, none⟩ = false) := by
  refine ⟨⟨h.cell 0, h.cell 1, h.cell 2, h.cell 3⟩, ?_⟩
  unfold NewRow at h
  refine ⟨?_, ?_, ?_, ?_⟩ <;> simp [World.frozen?, h]
theorem FnOuts.apart {w : World} {f : Value} {l : List Out} {b : Nat} (h : FnOuts w f l) (n : NewRow w b) (u0 u1 u2 u3 : Value) :
    FnOuts ((((w.setCell ⟨b, 0, none⟩ u0).setCell ⟨b, 1, none⟩ u1).setCell ⟨b, 2, none⟩ u2).setCell ⟨b, 3, none⟩ u3) f l := by
  obtain ⟨bf, v, rfl, hbf, hc, ho, h1, h2⟩ := h
  obtain ⟨hlen, A, c, rfl, hcap, hcell⟩ := ho
  obtain ⟨bs, o, rfl, hlo, hlt, hcs⟩ := hcell h1
  have e1 : bf ≠ b := by
    rintro rfl
    rw [n.cell 0] at hc
    simp at hc
  have e2 : bs ≠ b := by
    rintro rfl
    match l, h1 with
    | x :: l', _ =>
      have x0 := hcs 0 _ rfl
      have x2 := hcs 2 _ rfl
      rw [n.cell] at x0 x2
      match o with
      | 0 => simp at x2
      | 1 => simp at x0
      | 2 => simp at x0
      | 3 => simp at x0
      | o + 4 => simp at x0
  have key : ∀ g q, g ≠ b → ((((w.setCell ⟨b, 0, none⟩ u0).setCell ⟨b, 1, none⟩ u1).setCell ⟨b, 2, none⟩ u2).setCell ⟨b, 3, none⟩ u3).cell? ⟨g, q, none⟩ = w.cell? ⟨g, q, none⟩ := by
    intro g q hg
    have st : ∀ (w' : World) (i : Nat) (u : Value), (w'.setCell ⟨b, i, none⟩ u).cell? ⟨g, q, none⟩ = w'.cell? ⟨g, q, none⟩ := fun w' i u => World.cell?_setCell_other w' _ _ u (fun e => hg (by injection e with e1; exact e1.symm))
    rw [st, st, st, st]
  refine ⟨bf, _, rfl, by simpa [World.setCell] using hbf, (key bf 0 e1).trans hc, ⟨hlen, _, c, rfl, hcap, fun _ => ⟨bs, o, rfl, hlo, by simpa [World.setCell] using hlt, fun j u hu => (key bs _ e2).trans (hcs j u hu)⟩⟩, h1, h2⟩
theorem SI.drew {w cur : World} {s wt c k ic t : Int} (h : SI w s wt c k ic t cur) : SI w s wt c k ic t cur.drew := h.call (Below.drew (Below.refl _ _))

theorem four_set {w : World} {b p : Nat} {v0 v1 v2 v3 : Value} (h : w.cell? ⟨b, 0, none⟩ = some v0 ∧ w.cell? ⟨b, 1, none⟩ = some v1 ∧ w.cell? ⟨b, 2, none⟩ = some v2 ∧ w.cell? ⟨b, 3, none⟩ = some v3) (hne : p ≠ b) (u0 u1 u2 : Value) :
    (((w.setCell ⟨p, 0, none⟩ u0).setCell ⟨p, 1, none⟩ u1).setCell ⟨p, 2, none⟩ u2).cell? ⟨b, 0, none⟩ = some v0 ∧ (((w.setCell ⟨p, 0, none⟩ u0).setCell ⟨p, 1, none⟩ u1).setCell ⟨p, 2, none⟩ u2).cell? ⟨b, 1, none⟩ = some v1 ∧
    (((w.setCell ⟨p, 0, none⟩ u0).setCell ⟨p, 1, none⟩ u1).setCell ⟨p, 2, none⟩ u2).cell? ⟨b, 2, none⟩ = some v2 ∧ (((w.setCell ⟨p, 0, none⟩ u0).setCell ⟨p, 1, none⟩ u1).setCell ⟨p, 2, none⟩ u2).cell? ⟨b, 3, none⟩ = some v3 := by
  have st : ∀ (w' : World) (i q : Nat) (u : Value), (w'.setCell ⟨p, i, none⟩ u).cell? ⟨b, q, none⟩ = w'.cell? ⟨b, q, none⟩ := fun w' i q u => World.cell?_setCell_other w' _ _ u (fun e => hne (by injection e))
  simp only [st]
  exact h
theorem four_below {w w1 : World} {b : Nat} {v0 v1 v2 v3 : Value} (hb : Below w.heap.size w w1) (hlt : b < w.heap.size) (h : w.cell? ⟨b, 0, none⟩ = some v0 ∧ w.cell? ⟨b, 1, none⟩ = some v1 ∧ w.cell? ⟨b, 2, none⟩ = some v2 ∧ w.cell? ⟨b, 3, none⟩ = some v3) :
    w1.cell? ⟨b, 0, none⟩ = some v0 ∧ w1.cell? ⟨b, 1, none⟩ = some v1 ∧ w1.cell? ⟨b, 2, none⟩ = some v2 ∧ w1.cell? ⟨b, 3, none⟩ = some v3 := by
  have hc : ∀ o, w1.cell? ⟨b, o, none⟩ = w.cell? ⟨b, o, none⟩ := fun o => hb.cell (p := ⟨b, o, none⟩) hlt
  simp only [hc]
  exact h
theorem lt_of_cell {w : World} {b o : Nat} {v : Value} (h : w.cell? ⟨b, o, none⟩ = some v) : b < w.heap.size := by
  rcases Nat.lt_or_ge b w.heap.size with h1 | h1
  · exact h1
  · simp [World.cell?, Array.getElem?_eq_none h1] at h

/-- Behind the look-up: the variable r holds the row. -/
def SRel (w : World) (s wt c k ic t : Int) (x : Row) (p q : Value) (wr : World) : Prop :=
  q = .bool true ∧ ∃ b f, p = .pointer (some ⟨b, 0, none⟩) ∧ w.heap.size + 1 + 1 + 1 < b ∧ (wr.cell? ⟨b, 0, none⟩ = some (.int .u8 x.m.st) ∧ wr.cell? ⟨b, 1, none⟩ = some (.int .i64 x.m.wait) ∧ wr.cell? ⟨b, 2, none⟩ = some (.int .i64 x.m.code) ∧ wr.cell? ⟨b, 3, none⟩ = some f) ∧
    SI w s wt c k ic t wr ∧ FnOuts wr f x.l

set_option maxHeartbeats 1000000 in
theorem step_some (s wt c k ic t : Int) (w : World) (S : List Row) (x : Row) (hm : mayB s wt c = true)
    (htab : ∀ w0 : World, Calls Try.prog 31 #[.agg #[.int .u8 s, .int .i64 wt, .int .i64 c], .agg #[.int .u8 k, .int .i64 ic, .int .u8 t]] w0 (TabPost S w0))
    (hx : x ∈ S) (hk : x.k = (s, k, keyClass k ic, keyTimer k t)) (hu : ∀ y ∈ S, y.k = (s, k, keyClass k ic, keyTimer k t) → y = x) :
    Calls Try.prog 24 #[.agg #[.int .u8 s, .int .i64 wt, .int .i64 c], .agg #[.int .u8 k, .int .i64 ic, .int .u8 t]] w (RetMO w x.m x.l) := by
  have HTAB := Lib.hid htab; have HX := Lib.hid hx; have HKK := Lib.hid hk; have HU := Lib.hid hu
  clear htab hx hk hu
  go_enter Try.func24, Try.ntmps24
  go_wp2_with (first | (go_at_call 14; refine (may_any _ _ _ _).mono ?_; rintro e w' ⟨rfl, rfl⟩) | fail)
  have hsi : SI w s wt c k ic t ((((w.alloc (.cells #[.int .u8 s, .int .i64 wt, .int .i64 c] 26)).alloc (.cells #[.int .u8 k, .int .i64 ic, .int .u8 t] 47)).alloc (.cells #[.int .u8 0, .int .i64 0, .int .i64 0] 26)).alloc (.cells #[.int .u8 s, .int .i64 wt, .int .i64 c] 26)) := by
    refine ⟨by simp, ⟨?_, ?_, ?_⟩, ⟨?_, ?_, ?_⟩, ⟨?_, ?_, ?_⟩, ⟨?_, ?_, ?_⟩, ?_⟩
    all_goals first | (go_simp; done) | (repeat (first | exact Below.refl _ _ | refine Below.al _ (by simp; try omega) ?_))
  generalize ((((w.alloc (.cells #[.int .u8 s, .int .i64 wt, .int .i64 c] 26)).alloc (.cells #[.int .u8 k, .int .i64 ic, .int .u8 t] 47)).alloc (.cells #[.int .u8 0, .int .i64 0, .int .i64 0] 26)).alloc (.cells #[.int .u8 s, .int .i64 wt, .int .i64 c] 26)) = W at *
  have Q0 := Lib.hid hsi
  obtain ⟨l0, m0, i0, r0, f0, _⟩ := hsi
  obtain ⟨m0, m1, m2⟩ := m0
  obtain ⟨i0, i1, i2⟩ := i0
  clear r0 f0
  have l1 : w.heap.size < W.heap.size := by omega
  have l2 : w.heap.size + 1 < W.heap.size := by omega
  go_cut [6, 7] from 12 to 21 (fun p q wr => SRel w s wt c k ic t x p q wr)
  · rename_i J K' hJ hM
    go_region_held3 (fun w' => (w'.cell? ⟨w.heap.size, 0, none⟩ = some (.int .u8 s) ∧ w'.cell? ⟨w.heap.size, 1, none⟩ = some (.int .i64 wt) ∧ w'.cell? ⟨w.heap.size, 2, none⟩ = some (.int .i64 c)) ∧ w'.cell? ⟨w.heap.size + 1, 0, none⟩ = some (.int .u8 k) ∧ w'.cell? ⟨w.heap.size + 1, 1, none⟩ = some (.int .i64 ic) ∧ w'.cell? ⟨w.heap.size + 1, 2, none⟩ = some (.int .u8 t)) (first | with_reducible exact ⟨Q2.out.m, Q2.out.i⟩ | with_reducible exact ⟨(Q2.out.alloc _).m, (Q2.out.alloc _).i⟩ | with_reducible exact ⟨Q1.out.m, Q1.out.i⟩ | with_reducible exact ⟨(Q1.out.alloc _).m, (Q1.out.alloc _).i⟩ | with_reducible exact ⟨Q0.out.m, Q0.out.i⟩ | with_reducible exact ⟨Q0.out.drew.m, Q0.out.drew.i⟩ | with_reducible exact ⟨(Q0.out.alloc _).m, (Q0.out.alloc _).i⟩ | with_reducible exact ⟨(Q0.out.alloc _).drew.m, (Q0.out.alloc _).drew.i⟩ | with_reducible exact ⟨(Q2.out.set4 Q1.out.lt _ _ _ _).m, (Q2.out.set4 Q1.out.lt _ _ _ _).i⟩ | with_reducible exact ⟨(Q2.out.set4 Q0.out.lt _ _ _ _).m, (Q2.out.set4 Q0.out.lt _ _ _ _).i⟩ | (trace "KEEP"; trace_state; fail))
      (first
        | (go_at_call 31; refine (HTAB.out _).mono ?_; rintro e w1 ⟨r, rfl, ht, hb⟩; (try have N1 := NewRow.below (NewRow.new _).drew hb); have Q1 := Lib.hid (SI.call (by first | with_reducible exact Q0.out.drew | with_reducible exact (Q0.out.alloc _).drew) hb); have T1 := Lib.hid ht; clear ht hb)
        | (go_at_call 32; refine (keyOf_any _ _ _ _ _ _ _).mono ?_; rintro e w2 ⟨rfl, hb⟩; (try have N2 := NewRow.below N1 hb); (try have N2 := NewRow.below (NewRow.new _) hb); (try (obtain ⟨⟨n0, n1, n2, n3⟩, ⟨o0, o1, o2, o3⟩⟩ := N2.cells; have HN := Lib.hid N2; clear N2)); (try clear N1); have Q2 := Lib.hid (SI.call (by first | with_reducible exact Q1.out | with_reducible exact Q1.out.alloc _) hb); have t2 : TabSet w2 r S := (by first | with_reducible exact T1.out.below hb | with_reducible exact (T1.out.alloc _).below hb); obtain ⟨f, hf, hlook⟩ := t2.look_some (s, k, keyClass k ic, keyTimer k t) x HX.out HKK.out HU.out; have hl0 := hlook w2 rfl; have hl1 := fun o => hlook (w2.alloc o) (Below.heap_alloc w2 o r t2.lt); dsimp only [kV] at hl0 hl1; have HF := Lib.hid hf; obtain ⟨bf, vf, rfl, _⟩ := hf; clear hb t2 hlook))
    all_goals (refine hM _ _ (Met.intro (hJ _ _ ⟨_, _, _, _, _, _, _, _, _, _, _, _, ?_, rfl⟩)))
    · exact ⟨rfl, _, .func (.func 37) #[] #[.pointer (some ⟨bf, 0, none⟩)], rfl, Q2.out.lt, ⟨by go_simp, by go_simp, by go_simp, by go_simp⟩, Q2.out.alloc _, HF.out.kept (Kept.alloc _ _)⟩
    · exact ⟨rfl, _, .func (.func 37) #[] #[.pointer (some ⟨bf, 0, none⟩)], rfl, Q2.out.lt, ⟨by go_simp, by go_simp, by go_simp, by go_simp⟩, Q2.out.alloc _, HF.out.kept (Kept.alloc _ _)⟩
    · exact ⟨rfl, _, .func (.func 37) #[] #[.pointer (some ⟨bf, 0, none⟩)], rfl, Q1.out.lt, ⟨by go_simp, by go_simp, by go_simp, by go_simp⟩, Q2.out.set4 Q1.out.lt _ _ _ _, HF.out.apart HN.out _ _ _ _⟩
    · exact ⟨rfl, _, .func (.func 37) #[] #[.pointer (some ⟨bf, 0, none⟩)], rfl, Q0.out.lt, ⟨by go_simp, by go_simp, by go_simp, by go_simp⟩, Q2.out.set4 Q0.out.lt _ _ _ _, HF.out.apart HN.out _ _ _ _⟩
  · obtain ⟨rfl, b, f, rfl, hb3, ⟨c0, c1, c2, c3⟩, hsi, hf⟩ := hcut
    have Q2 := Lib.hid hsi; have HF := Lib.hid hf
    obtain ⟨l0, m0, i0, ⟨r0, r1, r2⟩, ⟨f0, f1, f2⟩, _⟩ := hsi
    obtain ⟨bf, vf, rfl, hbf, hcf, hof, hn1, hn2⟩ := hf
    clear m0 i0
    have C0 := Lib.hid (And.intro c0 (And.intro c1 (And.intro c2 c3)))
    have HC := Lib.hid hcf; have HO := Lib.hid hof; have HN1 := Lib.hid hn1; have HN2 := Lib.hid hn2
    have HL := Lib.hid (lt_of_cell c0)
    clear hbf hcf hof hn1 hn2
    go_wp2_with fail
    go_region_held3 (fun w' => w'.cell? ⟨b, 0, none⟩ = some (.int .u8 x.m.st) ∧ w'.cell? ⟨b, 1, none⟩ = some (.int .i64 x.m.wait) ∧ w'.cell? ⟨b, 2, none⟩ = some (.int .i64 x.m.code) ∧ w'.cell? ⟨b, 3, none⟩ = some (.func (.func 37) #[] #[.pointer (some ⟨bf, 0, none⟩)])) (first | with_reducible exact C1.out | with_reducible exact four_set C1.out (by omega) _ _ _ | go_keep)
      (first
        | (go_at_call 37; refine (outFn_any x.l wc.drew bf vf HC.out HO.out.drew HN1.out HN2.out).mono ?_; rintro e w3 ⟨v3, rfl, ho3, hb⟩; have C1 := Lib.hid (four_below (w := wc.drew) hb HL.out C0.out); have hsi := SI.call Q2.out.drew hb; have Q3 := Lib.hid hsi; obtain ⟨_, m0, i0, ⟨r0, r1, r2⟩, ⟨f0, f1, f2⟩, _⟩ := hsi; have HO3 := Lib.hid ho3; obtain ⟨_, A3, c3', rfl, _⟩ := ho3; clear hb c0 c1 c2 c3 m0 i0))
    go_wp2
    refine bodyPost_ret (v := .tuple #[.agg #[.int .u8 x.m.st, .int .i64 x.m.wait, .int .i64 x.m.code], .slice A3 x.l.length c3']) (by simp [results, Try.results24, go_sem, r0, r1, r2]) rfl ⟨_, rfl, ?_, ?_⟩
    · have ho : Outs w3 wc.heap.size (.slice A3 x.l.length c3') x.l := HO3.out
      exact Outs.lower (((ho.setCell (by simp; omega) _).setCell (by simp; omega) _).setCell (by simp; omega) _) Q2.out.below.size
    · exact ((Q3.out.below.setCell (by simp; omega) _).setCell (by simp; omega) _).setCell (by simp; omega) _

set_option maxHeartbeats 1000000 in
theorem step_none (s wt c k ic t : Int) (w : World) (S : List Row) (hm : mayB s wt c = true)
    (htab : ∀ w0 : World, Calls Try.prog 31 #[.agg #[.int .u8 s, .int .i64 wt, .int .i64 c], .agg #[.int .u8 k, .int .i64 ic, .int .u8 t]] w0 (TabPost S w0))
    (hn : ∀ y ∈ S, y.k ≠ (s, k, keyClass k ic, keyTimer k t)) :
    Calls Try.prog 24 #[.agg #[.int .u8 s, .int .i64 wt, .int .i64 c], .agg #[.int .u8 k, .int .i64 ic, .int .u8 t]] w (RetMO w ⟨s, wt, c⟩ []) := by
  have HTAB := Lib.hid htab; have HNN := Lib.hid hn
  clear htab hn
  go_enter Try.func24, Try.ntmps24
  go_wp2_with (first | (go_at_call 14; refine (may_any _ _ _ _).mono ?_; rintro e w' ⟨rfl, rfl⟩) | fail)
  have hsi : SI w s wt c k ic t ((((w.alloc (.cells #[.int .u8 s, .int .i64 wt, .int .i64 c] 26)).alloc (.cells #[.int .u8 k, .int .i64 ic, .int .u8 t] 47)).alloc (.cells #[.int .u8 0, .int .i64 0, .int .i64 0] 26)).alloc (.cells #[.int .u8 s, .int .i64 wt, .int .i64 c] 26)) := by
    refine ⟨by simp, ⟨?_, ?_, ?_⟩, ⟨?_, ?_, ?_⟩, ⟨?_, ?_, ?_⟩, ⟨?_, ?_, ?_⟩, ?_⟩
    all_goals first | (go_simp; done) | (repeat (first | exact Below.refl _ _ | refine Below.al _ (by simp; try omega) ?_))
  generalize ((((w.alloc (.cells #[.int .u8 s, .int .i64 wt, .int .i64 c] 26)).alloc (.cells #[.int .u8 k, .int .i64 ic, .int .u8 t] 47)).alloc (.cells #[.int .u8 0, .int .i64 0, .int .i64 0] 26)).alloc (.cells #[.int .u8 s, .int .i64 wt, .int .i64 c] 26)) = W at *
  have Q0 := Lib.hid hsi
  obtain ⟨l0, m0, i0, r0, f0, _⟩ := hsi
  obtain ⟨m0, m1, m2⟩ := m0
  obtain ⟨i0, i1, i2⟩ := i0
  clear r0 f0
  have l1 : w.heap.size < W.heap.size := by omega
  have l2 : w.heap.size + 1 < W.heap.size := by omega
  go_cut [6, 7] from 12 to 21 (fun p q wr => q = .bool false ∧ SI w s wt c k ic t wr)
  · rename_i J K' hJ hM
    go_region_held3 (fun w' => (w'.cell? ⟨w.heap.size, 0, none⟩ = some (.int .u8 s) ∧ w'.cell? ⟨w.heap.size, 1, none⟩ = some (.int .i64 wt) ∧ w'.cell? ⟨w.heap.size, 2, none⟩ = some (.int .i64 c)) ∧ w'.cell? ⟨w.heap.size + 1, 0, none⟩ = some (.int .u8 k) ∧ w'.cell? ⟨w.heap.size + 1, 1, none⟩ = some (.int .i64 ic) ∧ w'.cell? ⟨w.heap.size + 1, 2, none⟩ = some (.int .u8 t)) (first | with_reducible exact ⟨Q2.out.m, Q2.out.i⟩ | with_reducible exact ⟨(Q2.out.alloc _).m, (Q2.out.alloc _).i⟩ | with_reducible exact ⟨Q1.out.m, Q1.out.i⟩ | with_reducible exact ⟨(Q1.out.alloc _).m, (Q1.out.alloc _).i⟩ | with_reducible exact ⟨Q0.out.m, Q0.out.i⟩ | with_reducible exact ⟨Q0.out.drew.m, Q0.out.drew.i⟩ | with_reducible exact ⟨(Q0.out.alloc _).m, (Q0.out.alloc _).i⟩ | with_reducible exact ⟨(Q0.out.alloc _).drew.m, (Q0.out.alloc _).drew.i⟩ | with_reducible exact ⟨(Q2.out.set4 Q1.out.lt _ _ _ _).m, (Q2.out.set4 Q1.out.lt _ _ _ _).i⟩ | with_reducible exact ⟨(Q2.out.set4 Q0.out.lt _ _ _ _).m, (Q2.out.set4 Q0.out.lt _ _ _ _).i⟩ | (trace "KEEP"; trace_state; fail))
      (first
        | (go_at_call 31; refine (HTAB.out _).mono ?_; rintro e w1 ⟨r, rfl, ht, hb⟩; (try have N1 := NewRow.below (NewRow.new _).drew hb); have Q1 := Lib.hid (SI.call (by first | with_reducible exact Q0.out.drew | with_reducible exact (Q0.out.alloc _).drew) hb); have T1 := Lib.hid ht; clear ht hb)
        | (go_at_call 32; refine (keyOf_any _ _ _ _ _ _ _).mono ?_; rintro e w2 ⟨rfl, hb⟩; (try have N2 := NewRow.below N1 hb); (try have N2 := NewRow.below (NewRow.new _) hb); (try (obtain ⟨⟨n0, n1, n2, n3⟩, ⟨o0, o1, o2, o3⟩⟩ := N2.cells; have HN := Lib.hid N2; clear N2)); (try clear N1); have Q2 := Lib.hid (SI.call (by first | with_reducible exact Q1.out | with_reducible exact Q1.out.alloc _) hb); have t2 : TabSet w2 r S := (by first | with_reducible exact T1.out.below hb | with_reducible exact (T1.out.alloc _).below hb); have hl0 := t2.look_none (s, k, keyClass k ic, keyTimer k t) HNN.out; have hl1 := fun o => (t2.alloc o).look_none (s, k, keyClass k ic, keyTimer k t) HNN.out; dsimp only [kV] at hl0 hl1; clear hb t2))
    all_goals (refine hM _ _ (Met.intro (hJ _ _ ⟨_, _, _, _, _, _, _, _, _, _, _, _, ?_, rfl⟩)))
    · exact ⟨rfl, Q2.out.alloc _⟩
    · exact ⟨rfl, Q2.out.alloc _⟩
    · exact ⟨rfl, Q2.out.set4 Q1.out.lt _ _ _ _⟩
    · exact ⟨rfl, Q2.out.set4 Q0.out.lt _ _ _ _⟩
  · obtain ⟨rfl, hsi⟩ := hcut
    have Q2 := Lib.hid hsi
    obtain ⟨l0, ⟨m0, m1, m2⟩, i0, ⟨r0, r1, r2⟩, ⟨f0, f1, f2⟩, _⟩ := hsi
    clear i0
    go_wp2
    refine bodyPost_ret (v := .tuple #[.agg #[.int .u8 s, .int .i64 wt, .int .i64 c], .slice none 0 0]) (by simp [results, Try.results24, go_sem, r0, r1, r2]) rfl ⟨_, rfl, ?_, ?_⟩
    · exact Outs.none_ _ _
    · exact ((Q2.out.below.setCell (by simp; omega) _).setCell (by simp; omega) _).setCell (by simp; omega) _
end Go.Proofs.Ytdooohanhekniaa
