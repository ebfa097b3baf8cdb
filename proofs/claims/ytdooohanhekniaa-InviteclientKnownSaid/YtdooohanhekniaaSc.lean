/- The contract of the simulated machine's give. -/
import Derived.Test.YtdooohanhekniaaSb
import Derived.Test.YtdooohanhekniaaSp
namespace Go.Proofs.Ytdooohanhekniaa
open Go.RowKit

/-- Block b holds an input. -/
def J3 (w : World) (b : Nat) (k c t : Int) : Prop := b < w.heap.size ∧ w.cell? ⟨b, 0, none⟩ = some (.int .u8 k) ∧ w.cell? ⟨b, 1, none⟩ = some (.int .i64 c) ∧ w.cell? ⟨b, 2, none⟩ = some (.int .u8 t)
theorem J3.c {w : World} {b : Nat} {k c t : Int} (h : J3 w b k c t) : w.cell? ⟨b, 0, none⟩ = some (.int .u8 k) ∧ w.cell? ⟨b, 1, none⟩ = some (.int .i64 c) ∧ w.cell? ⟨b, 2, none⟩ = some (.int .u8 t) := h.2
theorem J3.below {w w1 : World} {b : Nat} {k c t : Int} (h : J3 w b k c t) (hb : Below w.heap.size w w1) : J3 w1 b k c t :=
  ⟨Nat.lt_of_lt_of_le h.1 hb.size, (hb.cell (p := ⟨b, 0, none⟩) h.1).trans h.2.1, (hb.cell (p := ⟨b, 1, none⟩) h.1).trans h.2.2.1, (hb.cell (p := ⟨b, 2, none⟩) h.1).trans h.2.2.2⟩
theorem J3.alloc {w : World} {b : Nat} {k c t : Int} (h : J3 w b k c t) (o : Obj) : J3 (w.alloc o) b k c t := h.below ((Below.refl _ _).alloc (Nat.le_refl _) o)
theorem J3.new (w : World) (k c t : Int) (T : TypeId) : J3 (w.alloc (.cells #[.int .u8 k, .int .i64 c, .int .u8 t] T)) w.heap.size k c t := by
  refine ⟨by simp, ?_, ?_, ?_⟩ <;> go_simp
theorem J3.drew {w : World} {b : Nat} {k c t : Int} (h : J3 w b k c t) : J3 w.drew b k c t := h
/-- As SimV.cm, of a sim that is written out. -/
theorem SimV.cm' {w : World} {g : Nat} {s wt c : Int} {d : List Int} {n : Int} {l : List Ent} {v : Value} (h : SimV w g ⟨⟨s, wt, c⟩, d, n, l⟩ v) : w.cell? ⟨g, 0, none⟩ = some (.int .u8 s) ∧ w.cell? ⟨g, 1, none⟩ = some (.int .i64 wt) ∧ w.cell? ⟨g, 2, none⟩ = some (.int .i64 c) := h.cm

def giveS (σ : Sim) (i : Inp) : Sim := takeS σ (stepS σ.m i).1 (stepS σ.m i).2

theorem SimV.setOther {w : World} {g b i : Nat} {σ : Sim} {v : Value} (h : SimV w g σ v) (hb : b ≠ g) (hv : v.ownBlock ≠ some b) (u : Value) : SimV (w.setCell ⟨b, i, none⟩ u) g σ v :=
  h.keep (Below.heap_setCell w _ u g (Ne.symm hb)) fun k hk => Below.heap_setCell w _ u k (by rintro rfl; exact hv hk)
theorem Mv.setNew {w w1 : World} {g b i : Nat} {v v1 : Value} (h : Mv w w1 g v v1) (hb : w.heap.size ≤ b) (u : Value) : Mv w (w1.setCell ⟨b, i, none⟩ u) g v v1 :=
  ⟨h.os, h.tape, h.output, by simpa [World.setCell] using h.size, fun k hk hg hv => (Below.heap_setCell w1 _ u k (by simp; omega)).trans (h.block k hk hg hv), h.at_⟩

/-- What stands before give calls take. -/
def GiveC (w : World) (g : Nat) (v : Value) (σ : Sim) (q0 q1 q2 : Int) (l : List Out) (s4 s5 : Value) (wx : World) : Prop :=
  ∃ b lo : Nat, s4 = .pointer (some ⟨b, 0, none⟩) ∧ (wx.cell? ⟨b, 0, none⟩ = some (.int .u8 q0) ∧ wx.cell? ⟨b, 1, none⟩ = some (.int .i64 q1) ∧ wx.cell? ⟨b, 2, none⟩ = some (.int .i64 q2)) ∧ SimV wx g σ v ∧ Mv w wx g v v ∧ Outs wx lo s5 l ∧ w.heap.size ≤ lo
theorem GiveC.one {w w1 : World} {g lo : Nat} {v u : Value} {σ : Sim} {q0 q1 q2 : Int} {l : List Out} {T : TypeId} (hS : SimV w1 g σ v) (hM : Mv w w1 g v v) (hO : Outs w1 lo u l) (hl : w.heap.size ≤ lo) :
    GiveC w g v σ q0 q1 q2 l (.pointer (some ⟨w1.heap.size, 0, none⟩)) u (w1.alloc (.cells #[.int .u8 q0, .int .i64 q1, .int .i64 q2] T)) :=
  ⟨w1.heap.size, lo, rfl, by refine ⟨?_, ?_, ?_⟩ <;> go_simp, hS.alloc _, hM.alloc _, hO.alloc _, hl⟩
theorem GiveC.two {w w0 w1 : World} {g lo : Nat} {v u : Value} {σ : Sim} {q0 q1 q2 : Int} {l : List Out} {T : TypeId} (hS0 : SimV w g σ v) (hS : SimV w1 g σ v) (hM : Mv w w1 g v v) (hO : Outs w1 lo u l) (hb : Below w0.heap.size w0 w1) (hw0 : w0.heap.size = w.heap.size + 1 + 1) (hl : lo = w.heap.size + 1 + 1)
    (hc : w0.heap[w.heap.size + 1]? = some (.cells #[.int .u8 0, .int .i64 0, .int .i64 0] T (0, 0))) :
    GiveC w g v σ q0 q1 q2 l (.pointer (some ⟨w.heap.size + 1, 0, none⟩)) u (((w1.setCell ⟨w.heap.size + 1, 0, none⟩ (.int .u8 q0)).setCell ⟨w.heap.size + 1, 1, none⟩ (.int .i64 q1)).setCell ⟨w.heap.size + 1, 2, none⟩ (.int .i64 q2)) := by
  have h1 : w1.heap[w.heap.size + 1]? = some (.cells #[.int .u8 0, .int .i64 0, .int .i64 0] T (0, 0)) := (hb.block _ (by omega)).trans hc
  have h2 : (((w1.setCell ⟨w.heap.size + 1, 0, none⟩ (.int .u8 q0)).setCell ⟨w.heap.size + 1, 1, none⟩ (.int .i64 q1)).setCell ⟨w.heap.size + 1, 2, none⟩ (.int .i64 q2)).heap[w.heap.size + 1]? = some (.cells #[.int .u8 q0, .int .i64 q1, .int .i64 q2] T (0, 0)) := by
    simp [World.setCell, Array.getElem?_modify, h1]
  have hg := hS0.lt
  have hv : v.ownBlock ≠ some (w.heap.size + 1) := fun e => by have := (hS0.own.lt _ e).2; omega
  refine ⟨w.heap.size + 1, lo, rfl, ⟨?_, ?_, ?_⟩, ?_, ?_, ?_, by omega⟩
  · rw [cell_of_row _ _ 0 _ T (0, 0) h2]; rfl
  · rw [cell_of_row _ _ 1 _ T (0, 0) h2]; rfl
  · rw [cell_of_row _ _ 2 _ T (0, 0) h2]; rfl
  · exact ((hS.setOther (by omega) hv _).setOther (by omega) hv _).setOther (by omega) hv _
  · exact ((hM.setNew (by omega) _).setNew (by omega) _).setNew (by omega) _
  · exact ((hO.setCell (by simp; omega) _).setCell (by simp; omega) _).setCell (by simp; omega) _

set_option maxRecDepth 100000 in
set_option maxHeartbeats 4000000 in
theorem give_any (g : Nat) (σ : Sim) (v : Value) (k c t : Int) (w : World) (hs : SimV w g σ v) (hlog : σ.log.length ≤ 100000) (hn0 : 0 ≤ σ.now) (hn1 : σ.now ≤ 1000000000) :
    Calls Try.prog 23 #[.pointer (some ⟨g, 0, none⟩), .agg #[.int .u8 k, .int .i64 c, .int .u8 t]] w (TakeP w g v (giveS σ ⟨k, c, t⟩)) := by
  have hlen := stepS_len σ.m ⟨k, c, t⟩
  have hout := stepS_outs σ.m ⟨k, c, t⟩
  unfold giveS
  have hst := fun W => step_any σ.m.st σ.m.wait σ.m.code k c t W
  obtain ⟨⟨ms, mw, mc⟩, due, now, log⟩ := σ
  simp only at hlen hout hst hlog hn0 hn1 ⊢
  generalize hr : stepS ⟨ms, mw, mc⟩ ⟨k, c, t⟩ = r at *
  obtain ⟨⟨q0, q1, q2⟩, l⟩ := r
  simp only at hlen hout hst ⊢
  clear hr
  have HST := Lib.hid hst; have HL := Lib.hid hlen; have HOU := Lib.hid hout; have HS := Lib.hid hs
  obtain ⟨c0, c1, c2⟩ := hs.cm
  simp only at c0 c1 c2
  have hgl := hs.lt
  have hnea : ¬ (w.heap.size + 1 = g) := by omega
  have hneb : ¬ (g = w.heap.size + 1) := by omega
  clear hst hlen hout hs
  go_enter Try.func23, Try.ntmps23
  go_upto_region 1 with fail
  go_cut [4, 5] (fun s4 s5 wx => GiveC w g v ⟨⟨ms, mw, mc⟩, due, now, log⟩ q0 q1 q2 l s4 s5 wx)
  case first =>
    go_region_held3 (fun w' => (w'.cell? ⟨g, 0, none⟩ = some (.int .u8 ms) ∧ w'.cell? ⟨g, 1, none⟩ = some (.int .i64 mw) ∧ w'.cell? ⟨g, 2, none⟩ = some (.int .i64 mc)) ∧
        (w'.cell? ⟨w.heap.size, 0, none⟩ = some (.int .u8 k) ∧ w'.cell? ⟨w.heap.size, 1, none⟩ = some (.int .i64 c) ∧ w'.cell? ⟨w.heap.size, 2, none⟩ = some (.int .u8 t)))
      (first | with_reducible exact ⟨S1.out.cm', I1.out.c⟩ | with_reducible exact ⟨(S1.out.alloc _).cm', (I1.out.alloc _).c⟩ | go_keep)
      (first
        | (go_at_call 24; refine (HST.out _).mono ?_; rintro e w1 ⟨u, rfl, ho, hb⟩; have S1 := Lib.hid (show SimV w1 g ⟨⟨ms, mw, mc⟩, due, now, log⟩ v from (by first | exact (HS.out.alloc _).drew.below hb | exact ((HS.out.alloc _).alloc _).drew.below hb)); have I1 := Lib.hid (show J3 w1 w.heap.size k c t from (by first | exact (J3.new w k c t _).drew.below hb | exact ((J3.new w k c t _).alloc _).drew.below hb)); have M1 := Lib.hid (show Mv w w1 g v v from (by first | exact (((Mv.refl w g v).alloc _).drew).below hb | exact ((((Mv.refl w g v).alloc _).alloc _).drew).below hb)); have O1 := Lib.hid ho; have B1 := Lib.hid hb; obtain ⟨hcc, hff⟩ := bcell hb; (try have hz1 : w.heap.size + 1 < w1.heap.size := (by have := hb.size; simp at this; omega)); clear ho hb HST))
    · go_wp2_with fail
      go_meet
      exact GiveC.one S1.out M1.out O1.out (by simp)
    · go_wp2_with fail
      go_meet
      exact GiveC.two HS.out S1.out M1.out O1.out B1.out (by simp) (by simp) (by have h := heap_alloc_new (w.alloc (.cells #[.int .u8 k, .int .i64 c, .int .u8 t] 47)) (.cells #[.int .u8 0, .int .i64 0, .int .i64 0] 26); rw [World.size_alloc] at h; exact h)
  case rest =>
    obtain ⟨b, lo, rfl, ⟨d0, d1, d2⟩, hS, hM, hO, hlo⟩ := hcut
    have hO' := hO
    obtain ⟨_, A, cp, hv5, _⟩ := hO'
    subst hv5
    have HT := Lib.hid (take_any g ⟨⟨ms, mw, mc⟩, due, now, log⟩ v q0 q1 q2 A l.length cp l lo wc hS hO (Nat.lt_of_lt_of_le hgl hlo) (fun k hk => Nat.lt_of_lt_of_le (HS.out.own.lt k hk).2 hlo) (by have := HL.out; omega) hlog hn0 hn1 HOU.out)
    have HM := Lib.hid hM
    clear hS hM hO hlo c0 c1 c2
    go_wp2_with fail
    refine HT.out.mono ?_
    rintro e w2 ⟨rfl, v', h1, h2⟩
    have FIN := Lib.hid (show TakeP w g v (takeS ⟨⟨ms, mw, mc⟩, due, now, log⟩ ⟨q0, q1, q2⟩ l) (.returned (.tuple #[])) w2 from ⟨rfl, v', h1, HM.out.trans h2⟩)
    clear h1 h2
    go_wp2_with fail
    go_end0
    exact FIN.out
end Go.Proofs.Ytdooohanhekniaa
