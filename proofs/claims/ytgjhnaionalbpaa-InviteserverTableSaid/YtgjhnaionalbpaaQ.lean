/- The law's inputs, and InviteserverTable's call. -/
import Derived.Test.YtgjhnaionalbpaaP
namespace Go.Proofs.Ytgjhnaionalbpaa
open Go.RowKit

/-- A block of at least n integers. -/
def IntsAt (w : World) (g n : Nat) : Prop := g < w.heap.size ∧ ∀ j, j < n → ∃ x : Int, w.cell? ⟨g, j, none⟩ = some (.int .i64 x)
theorem IntsAt.kept {w w1 : World} {g n : Nat} (h : IntsAt w g n) (k : Kept w w1) : IntsAt w1 g n :=
  ⟨Nat.lt_of_lt_of_le h.1 k.1, fun j hj => by obtain ⟨x, hx⟩ := h.2 j hj; exact ⟨x, (k.2 g j h.1).trans hx⟩⟩

/-- What holds in the loops of inputs. -/
structure InR (w : World) (b : Nat) (m : Mach) (g : Nat) (wr : World) : Prop where
  m : M3 wr b m
  g : IntsAt wr g 16
  bw : Below w.heap.size w wr
theorem InR.call {w : World} {b : Nat} {m : Mach} {g : Nat} {wr w1 : World} (h : InR w b m g wr) (hb : Below wr.heap.size wr w1) : InR w b m g w1 :=
  ⟨h.m.kept (Kept.of_below hb), h.g.kept (Kept.of_below hb), h.bw.trans (hb.mono h.bw.size)⟩
theorem InR.drew {w : World} {b : Nat} {m : Mach} {g : Nat} {wr : World} (h : InR w b m g wr) : InR w b m g wr.drew := h.call (Below.drew (Below.refl _ _))
def InRel (w : World) (b : Nat) (m : Mach) (g n : Nat) (i : Value) (wr : World) : Prop := ∃ j : Nat, j ≤ n ∧ i = .int .i64 j ∧ InR w b m g wr

set_option maxHeartbeats 2000000 in
theorem inputs_any (s wt c : Int) (g : Nat) (w : World) (hg : IntsAt w g 16) :
    Calls Try.prog 9 #[.agg #[.int .u8 s, .int .i64 wt, .int .i64 c], .slice (some ⟨g, 0, none⟩) 16 16] w (TrueBelow w) := by
  have HG := Lib.hid hg; clear hg
  go_enter Try.func9, Try.ntmps9
  go_wp2
  go_loopw [5] (fun i wr => InRel w w.heap.size ⟨s, wt, c⟩ g 8 i wr) (fun i _ => 8 - (intOf i).toNat)
  case atStart => exact ⟨0, Nat.zero_le _, rfl, ⟨M3.new w ⟨s, wt, c⟩, HG.out.kept (Kept.alloc _ _), (Below.refl _ _).alloc (Nat.le_refl _) _⟩⟩
  case round =>
    clear HG
    obtain ⟨j, hj, rfl, hR⟩ := hrel
    have R0 := Lib.hid hR; clear hR
    by_cases hlt : j < 8
    · have hd : decide ((j : Int) < 8) = true := by simp; omega
      go_wp2_with fail
      obtain ⟨wo, rfl⟩ : ∃ wo : World, wo = wr := ⟨_, rfl⟩
      go_loopw [6] (fun i wr => InRel w w.heap.size ⟨s, wt, c⟩ g 16 i wr) (fun i _ => 16 - (intOf i).toNat)
      case atStart => exact ⟨0, Nat.zero_le _, rfl, R0.out⟩
      case round =>
        clear R0
        obtain ⟨q, hq, rfl, hR⟩ := hrel
        have R1 := Lib.hid hR
        by_cases hlq : q < 16
        · obtain ⟨x, hx⟩ := hR.g.2 q hlq
          obtain ⟨l0, a0, a1, a2⟩ := hR.m
          have l1 := hR.g.1
          clear hR
          go_wp2_with fail
          go_region_held3 (fun w' => (w'.cell? ⟨w.heap.size, 0, none⟩ = some (.int .u8 s) ∧ w'.cell? ⟨w.heap.size, 1, none⟩ = some (.int .i64 wt) ∧ w'.cell? ⟨w.heap.size, 2, none⟩ = some (.int .i64 c)) ∧ w'.cell? ⟨g, q, none⟩ = some (.int .i64 x)) (first | go_keep | with_reducible exact ⟨R2.out.m.c, X2.out⟩)
            (first
              | (go_at_call 21; refine (lawstep_any _ _ _ _ _ _ _).mono ?_; rintro e w2 ⟨rfl, hb⟩; have X2 := Lib.hid ((hb.cell (p := ⟨g, q, none⟩) l1).trans hx); have R2 := Lib.hid (R1.out.drew.call hb); clear hb R1))
          clear l0 a0 a1 a2 hx X2
          go_wp2_with fail
          go_roundw
          case rel => exact ⟨q + 1, by omega, by go_num, R2.out⟩
          case measure => simp [intOf]; omega
        · obtain rfl : q = 16 := by omega
          clear hR
          go_wp2_with fail
          go_roundw
          case rel => exact ⟨j + 1, by omega, by go_num, R1.out⟩
          case measure => simp [intOf]; omega
    · have hd : decide ((j : Int) < 8) = false := by simp; omega
      go_wp2_with fail
      obtain ⟨wo, rfl⟩ : ∃ wo : World, wo = wr := ⟨_, rfl⟩
      go_loopw [7] (fun i wr => InRel w w.heap.size ⟨s, wt, c⟩ g 15 i wr) (fun i _ => 15 - (intOf i).toNat)
      case atStart => exact ⟨0, Nat.zero_le _, rfl, R0.out⟩
      case round =>
        clear R0
        obtain ⟨q, hq, rfl, hR⟩ := hrel
        have R1 := Lib.hid hR
        by_cases hlq : q < 15
        · obtain ⟨l0, a0, a1, a2⟩ := hR.m
          clear hR
          go_wp2_with (go_at_call 21; refine (lawstep_any _ _ _ _ _ _ _).mono ?_; rintro e w2 ⟨rfl, hb⟩; have R2 := Lib.hid (R1.out.call hb); clear hb R1 l0 a0 a1 a2)
          go_roundw
          case rel => exact ⟨q + 1, by omega, by go_num, R2.out⟩
          case measure => simp [intOf]; omega
        · obtain rfl : q = 15 := by omega
          clear hR
          go_wp2_with fail
          go_ret
          exact ⟨rfl, R1.out.bw⟩

/-- What holds in the loops of InviteserverTable. -/
structure TabR (w : World) (wr : World) : Prop where
  c : IntsAt wr w.heap.size 16
  v : IntsAt wr (w.heap.size + 1) 10
  bw : Below w.heap.size w wr
theorem TabR.call {w wr w1 : World} (h : TabR w wr) (hb : Below wr.heap.size wr w1) : TabR w w1 :=
  ⟨h.c.kept (Kept.of_below hb), h.v.kept (Kept.of_below hb), h.bw.trans (hb.mono h.bw.size)⟩
theorem TabR.drew {w wr : World} (h : TabR w wr) : TabR w wr.drew := h.call (Below.drew (Below.refl _ _))
def TabRel (w : World) (n : Nat) (i : Value) (wr : World) : Prop := ∃ j : Nat, j ≤ n ∧ i = .int .i64 j ∧ TabR w wr

theorem ints_new {w : World} {b n : Nat} {cs : Array Value} (hb : b = w.heap.size) (h : (List.range n).all (fun j => match cs[j]? with | some (.int .i64 _) => true | _ => false) = true) : IntsAt (w.alloc (.cells cs 3)) b n := by
  subst hb
  refine ⟨by simp, fun j hj => ?_⟩
  rw [cell_of_row _ w.heap.size j cs 3 (0, 0) (heap_alloc_new w _)]
  have h1 := List.all_eq_true.1 h j (List.mem_range.2 hj)
  split at h1
  · rename_i x e; exact ⟨x, e⟩
  · cases h1

set_option maxHeartbeats 2000000 in
theorem table_law (w : World) : Calls Try.prog 3 #[] w (TrueBelow w) := by
  go_enter Try.func3, Try.ntmps3
  go_wp2
  go_loopw [3] (fun i wr => TabRel w 9 i wr) (fun i _ => 9 - (intOf i).toNat)
  case atStart => exact ⟨0, Nat.zero_le _, rfl, ⟨(ints_new rfl (by decide)).kept (Kept.alloc _ _), ints_new (by simp) (by decide), ((Below.refl _ _).alloc (Nat.le_refl _) _).alloc (by simp) _⟩⟩
  case round =>
    obtain ⟨j, hj, rfl, hR⟩ := hrel
    have R0 := Lib.hid hR; clear hR
    by_cases hlt : j < 9
    · have hd : decide ((j : Int) < 9) = true := by simp; omega
      go_wp2_with fail
      obtain ⟨wo, rfl⟩ : ∃ wo : World, wo = wr := ⟨_, rfl⟩
      go_loopw [4] (fun i wr => TabRel w 10 i wr) (fun i _ => 10 - (intOf i).toNat)
      case atStart => exact ⟨0, Nat.zero_le _, rfl, R0.out⟩
      case round =>
        clear R0
        obtain ⟨q, hq, rfl, hR⟩ := hrel
        have R1 := Lib.hid hR; clear hR
        by_cases hlq : q < 10
        · have hdq : decide ((q : Int) < 10) = true := by simp; omega
          go_wp2_with fail
          obtain ⟨wp, rfl⟩ : ∃ wp : World, wp = wr := ⟨_, rfl⟩
          go_loopw [5] (fun i wr => TabRel w 16 i wr) (fun i _ => 16 - (intOf i).toNat)
          case atStart => exact ⟨0, Nat.zero_le _, rfl, R1.out⟩
          case round =>
            clear R1
            obtain ⟨r, hr, rfl, hR⟩ := hrel
            have R2 := Lib.hid hR
            by_cases hlr : r < 16
            · obtain ⟨x, hx⟩ := hR.c.2 r hlr
              obtain ⟨y, hy⟩ := hR.v.2 q hlq
              have l1 := hR.c.1
              have l2 := hR.v.1
              have hqi : (q : Int) < 10 := by omega
              have hri : (r : Int) < 16 := by omega
              clear hR hdq
              go_wp2_with fail
              go_region_held3 (fun w' => w'.cell? ⟨w.heap.size, r, none⟩ = some (.int .i64 x) ∧ w'.cell? ⟨w.heap.size + 1, q, none⟩ = some (.int .i64 y)) (first | go_keep | with_reducible exact ⟨X3.out, Y3.out⟩)
                (first
                  | (go_at_call 9; refine (inputs_any _ _ _ _ _ R2.out.drew.c).mono ?_; rintro e w3 ⟨rfl, hb⟩; have X3 := Lib.hid ((hb.cell (p := ⟨w.heap.size, r, none⟩) l1).trans hx); have Y3 := Lib.hid ((hb.cell (p := ⟨w.heap.size + 1, q, none⟩) l2).trans hy); have R3 := Lib.hid (R2.out.drew.call hb); clear hb R2))
              clear hx hy X3 Y3 l1 l2
              go_wp2_with fail
              go_roundw
              case rel => exact ⟨r + 1, by omega, by go_num, R3.out⟩
              case measure => simp [intOf]; omega
            · clear hR
              go_wp2_with fail
              go_roundw
              case rel => exact ⟨q + 1, by omega, by go_num, R2.out⟩
              case measure => simp [intOf]; omega
        · go_wp2_with fail
          go_roundw
          case rel => exact ⟨j + 1, by omega, by go_num, R1.out⟩
          case measure => simp [intOf]; omega
    · go_wp2_with fail
      refine (works_any _).mono ?_
      rintro e w4 ⟨rfl, hb⟩
      have B4 := Lib.hid (R0.out.bw.trans (hb.mono R0.out.bw.size))
      clear hb R0
      go_wp2_with fail
      go_ret
      exact ⟨rfl, B4.out⟩
end Go.Proofs.Ytgjhnaionalbpaa
