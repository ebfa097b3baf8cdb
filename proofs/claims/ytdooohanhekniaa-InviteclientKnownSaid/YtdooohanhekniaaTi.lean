/- InviteclientKnown's call. -/
import Derived.Test.YtdooohanhekniaaTd
namespace Go.Proofs.Ytdooohanhekniaa
open Go.RowKit

def kn1 : Sim := giveS startS ⟨2, 180, 0⟩
def kn2 : Sim := untilS kn1 100000
def kn3 : Sim := giveS kn2 ⟨2, 404, 0⟩
def kn4 : Sim := giveS kn3 ⟨2, 404, 0⟩
def kn5 : Sim := giveS kn4 ⟨2, 200, 0⟩
def kn6 : Sim := giveS kn5 ⟨6, 0, 0⟩
theorem kn1_len : kn1.log.length = 4 := by decide +kernel
theorem kn1_now : kn1.now = 0 := by decide +kernel
theorem kn2_m : kn2.m = ⟨3, 0, 0⟩ := by rfl
theorem kn2_now : kn2.now = 100000 := by decide +kernel
theorem kn2_len : kn2.log.length = 4 := by decide +kernel
theorem kn3_now : kn3.now = 100000 := by decide +kernel
theorem kn3_len : kn3.log.length ≤ 100 := by decide +kernel
theorem kn4_now : kn4.now = 100000 := by decide +kernel
theorem kn4_len : kn4.log.length ≤ 100 := by decide +kernel
theorem kn5_now : kn5.now = 100000 := by decide +kernel
theorem kn5_len : kn5.log.length ≤ 100 := by decide +kernel
theorem kn5_c1 : cnt 3 100000 200 699 kn5.log = 1 := by decide +kernel
theorem kn5_c2 : cnt 2 100000 404 404 kn5.log = 2 := by decide +kernel
theorem kn6_m : kn6.m = ⟨7, 0, 404⟩ := by rfl
theorem kn6_now : kn6.now = 100000 := by decide +kernel
theorem kn6_len : kn6.log.length ≤ 100 := by decide +kernel
theorem kn6_c : cnt 6 100000 0 0 kn6.log = 1 := by decide +kernel
theorem kn6_closed : Closed kn6 := (give_inv (give_inv (give_inv (give_inv ((give_inv start_inv 2 180).until_ (t := 100000) (by rw [show (giveS startS ⟨2, 180, 0⟩).now = 0 from kn1_now]; omega)) 2 404) 2 404) 2 200) 6 0).closed

theorem step_k1 (w : World) : Calls Try.prog 24 #[.agg #[.int .u8 1, .int .i64 501, .int .i64 0], .agg #[.int .u8 5, .int .i64 0, .int .u8 2]] w (RetMO w ⟨0, 0, 0⟩ []) := step_any 1 501 0 5 0 2 w
theorem step_k2 (w : World) : Calls Try.prog 24 #[.agg #[.int .u8 1, .int .i64 32000, .int .i64 0], .agg #[.int .u8 5, .int .i64 0, .int .u8 1]] w (RetMO w ⟨1, 32000, 0⟩ [⟨1, 0, 0, 0⟩, ⟨4, 0, 1, 32000⟩]) := step_any 1 32000 0 5 0 1 w
theorem may_k (w : World) : Calls Try.prog 14 #[.agg #[.int .u8 0, .int .i64 0, .int .i64 0]] w fun e w' => e = .returned (.bool false) ∧ Below w.heap.size w w' :=
  (may_any 0 0 0 w).mono fun e w' ⟨he, hw⟩ => ⟨he, by rw [hw]; exact (Below.refl _ _).alloc (Nat.le_refl _) _⟩
theorem copies_k (u : Int) (z : Int) (hz : copiesS u = z) (w : World) : Calls Try.prog 20 #[.int .i64 u] w fun e w' => e = .returned (.int .i64 z) ∧ w = w' := by
  subst hz; exact copies_any u w

set_option maxRecDepth 100000 in
set_option maxHeartbeats 8000000 in
theorem known_law (w : World) : Calls Try.prog 8 #[] w (TrueBelow w) := by
  have hsn := startS_now
  have hsl := startS_log
  go_enter Try.func8, Try.ntmps8
  go_wp2_with fail
  refine (simstart_any _).mono ?_
  rintro e w1 ⟨g, v, rfl, hlo, hS, hv, hB⟩
  have HG := Lib.hid (show Calls Try.prog 23 _ w1 (TakeP w1 g v kn1) from give_any g startS v 2 180 0 w1 hS (by omega) (by omega) (by omega))
  have HV := Lib.hid hv; have HB := Lib.hid hB
  clear hS hv hB hsn hsl
  go_wp2_with fail
  refine HG.out.mono ?_
  rintro e w2 ⟨rfl, h2⟩
  have A2 := At.take HV.out hlo HB.out h2
  clear HG HV HB h2
  obtain ⟨v2, hS2, hv2⟩ := A2.ex
  have hgl := hS2.lt
  have c18 := hS2.clog
  obtain ⟨A, cap, e1, _, _⟩ := hS2.logAt
  rw [kn1_len] at e1
  rw [e1] at c18
  have HU := Lib.hid (show Calls Try.prog 12 _ w2 (TakeP w2 g v2 kn2) from until_any g kn1 v2 100000 w2 hS2 (by rw [kn1_len]; omega) (by rw [kn1_now]; omega) (by rw [kn1_now]; omega) (by omega))
  have HV := Lib.hid hv2; have HB := Lib.hid A2.bw
  clear hS2 hv2 A2 e1
  go_wp2_with fail
  refine HU.out.mono ?_
  rintro e w3 ⟨rfl, h2⟩
  have A2 := At.take HV.out hlo HB.out h2
  clear HU HV HB h2 c18 hgl
  obtain ⟨v3, hS2, hv2⟩ := A2.ex
  have hgl := hS2.lt
  have c18 := hS2.clog
  obtain ⟨c0, c1, c2⟩ := hS2.cm
  rw [kn2_m] at c0 c1 c2
  obtain ⟨A3, cap3, e1, _, _⟩ := hS2.logAt
  rw [kn2_len] at e1
  rw [e1] at c18
  have HG := Lib.hid (show Calls Try.prog 23 _ w3 (TakeP w3 g v3 kn3) from give_any g kn2 v3 2 404 0 w3 hS2 (by rw [kn2_len]; omega) (by rw [kn2_now]; omega) (by rw [kn2_now]; omega))
  have HV := Lib.hid hv2; have HB := Lib.hid A2.bw
  clear hS2 hv2 A2 e1
  go_wp2_with fail
  refine HG.out.mono ?_
  rintro e w4 ⟨rfl, h2⟩
  have A2 := At.take HV.out hlo HB.out h2
  clear HG HV HB h2 c18 hgl c0 c1 c2
  obtain ⟨v4, hS2, hv2⟩ := A2.ex
  have HG := Lib.hid (show Calls Try.prog 23 _ w4 (TakeP w4 g v4 kn4) from give_any g kn3 v4 2 404 0 w4 hS2 (by have := kn3_len; omega) (by rw [kn3_now]; omega) (by rw [kn3_now]; omega))
  have HV := Lib.hid hv2; have HB := Lib.hid A2.bw
  clear hS2 hv2 A2
  go_wp2_with fail
  refine HG.out.mono ?_
  rintro e w5 ⟨rfl, h2⟩
  have A2 := At.take HV.out hlo HB.out h2
  clear HG HV HB h2
  obtain ⟨v5, hS2, hv2⟩ := A2.ex
  have HG := Lib.hid (show Calls Try.prog 23 _ w5 (TakeP w5 g v5 kn5) from give_any g kn4 v5 2 200 0 w5 hS2 (by have := kn4_len; omega) (by rw [kn4_now]; omega) (by rw [kn4_now]; omega))
  have HV := Lib.hid hv2; have HB := Lib.hid A2.bw
  clear hS2 hv2 A2
  go_wp2_with fail
  refine HG.out.mono ?_
  rintro e w6 ⟨rfl, h2⟩
  have A2 := At.take HV.out hlo HB.out h2
  clear HG HV HB h2
  obtain ⟨v6, hS2, hv2⟩ := A2.ex
  have hgl := hS2.lt
  have c17 := hS2.cnow
  rw [kn5_now] at c17
  have HG := Lib.hid (show Calls Try.prog 23 _ w6 (TakeP w6 g v6 kn6) from give_any g kn5 v6 6 0 0 w6 hS2 (by have := kn5_len; omega) (by rw [kn5_now]; omega) (by rw [kn5_now]; omega))
  have K1 := Lib.hid (count_any g kn5 v6 3 100000 200 699 w6 hS2 (by have := kn5_len; omega))
  have K2 := Lib.hid (count_any g kn5 v6 2 100000 404 404 w6 hS2 (by have := kn5_len; omega))
  have HV := Lib.hid hv2; have HB := Lib.hid A2.bw
  clear hS2 hv2 A2
  go_wp2_with fail
  refine K1.out.mono ?_
  rw [kn5_c1]
  rintro e w' ⟨rfl, rfl⟩
  go_wp2_with fail
  refine K2.out.mono ?_
  rw [kn5_c2]
  rintro e w' ⟨rfl, rfl⟩
  go_wp2_with fail
  refine HG.out.mono ?_
  rintro e w7 ⟨rfl, h2⟩
  have A2 := At.take HV.out hlo HB.out h2
  clear HG HV HB h2 hgl c17 K1 K2
  obtain ⟨v7, hS2, hv2⟩ := A2.ex
  have hgl := hS2.lt
  have c17 := hS2.cnow
  rw [kn6_now] at c17
  obtain ⟨c0, c1, c2⟩ := hS2.cm
  rw [kn6_m] at c0 c1 c2
  have K1 := Lib.hid (count_any g kn6 v7 6 100000 0 0 w7 hS2 (by have := kn6_len; omega))
  have HC := Lib.hid (closed_any g kn6 v7 w7 hS2 (by have := kn6_len; omega) kn6_closed)
  have HA := Lib.hid A2
  clear hS2 hv2 A2
  go_wp2_with fail
  refine K1.out.mono ?_
  rw [kn6_c]
  rintro e w' ⟨rfl, rfl⟩
  go_wp2_with fail
  refine HC.out.mono ?_
  rintro e w8 ⟨rfl, q, rfl⟩
  have B8 := Lib.hid (HA.out.below ⟨rfl, rfl, rfl, Nat.le_refl _, fun _ _ => rfl⟩ : At w g _ (w7.drewN q)).bw
  clear c0 c1 c2 c17 hgl HC HA K1 hlo
  generalize w7.drewN q = W8 at *
  go_wp2_with fail
  refine (step_k1 _).mono ?_
  rintro e w9 ⟨u, rfl, ho, hb⟩
  obtain ⟨A9, cp9, rfl⟩ : ∃ A cp, u = .slice A 0 cp := by obtain ⟨_, A, cp, h, _⟩ := ho; exact ⟨A, cp, h⟩
  have B9 := Lib.hid ((B8.out).trans (hb.mono B8.out.size))
  clear ho hb B8
  go_wp2_with fail
  refine (step_k2 _).mono ?_
  rintro e w10 ⟨u, rfl, ho, hb⟩
  obtain ⟨A10, cp10, rfl⟩ : ∃ A cp, u = .slice A 2 cp := by obtain ⟨_, A, cp, h, _⟩ := ho; exact ⟨A, cp, h⟩
  have M1 := Lib.hid ((M3.new w9 ⟨0, 0, 0⟩).kept (Kept.of_below hb))
  have B10 := Lib.hid ((B9.out.alloc B9.out.size _).trans (hb.mono (by have := B9.out.size; simp; omega)))
  have O1 := Lib.hid (ho.lower (Nat.zero_le _))
  clear ho hb B9
  obtain ⟨l1, a0, a1, a2⟩ := M1.out
  go_wp2_with fail
  refine (outs_eq _ _ [⟨1, 0, 0, 0⟩, ⟨4, 0, 1, 32000⟩] 0 0 _ ((O1.out.alloc _).alloc _) (Outs.new (by simp) (Nat.zero_le _) (by rfl) (by rfl)) (by simp)).mono ?_
  rintro e w11 ⟨rfl, hb⟩
  have B11 := Lib.hid (((B10.out.alloc B10.out.size (.cells #[.int .u8 1, .int .i64 32000, .int .i64 0] 26)).alloc (by have := B10.out.size; simp; omega) _).trans (hb.mono (by have := B10.out.size; simp; omega)))
  clear hb B10 O1 M1 l1 a0 a1 a2
  go_wp2_with fail
  refine (copies_k _ 0 (by decide) _).mono ?_
  rintro e w' ⟨rfl, rfl⟩
  go_wp2_with fail
  refine (copies_k _ 1 (by decide) _).mono ?_
  rintro e w' ⟨rfl, rfl⟩
  go_wp2_with fail
  refine (copies_k _ 2 (by decide) _).mono ?_
  rintro e w' ⟨rfl, rfl⟩
  go_wp2_with fail
  refine (copies_k _ 3 (by decide) _).mono ?_
  rintro e w' ⟨rfl, rfl⟩
  go_wp2_with fail
  refine (copies_k _ 7 (by decide) _).mono ?_
  rintro e w' ⟨rfl, rfl⟩
  go_wp2_with fail
  refine (may_k _).mono ?_
  rintro e w12 ⟨rfl, hb⟩
  have B12 := Lib.hid (B11.out.trans (hb.mono B11.out.size))
  clear hb B11
  go_wp2_with fail
  refine (works_any _).mono ?_
  rintro e w13 ⟨rfl, hb⟩
  have B13 := Lib.hid (B12.out.trans (hb.mono B12.out.size))
  clear hb B12
  go_wp2_with fail
  go_ret
  exact ⟨rfl, B13.out⟩
end Go.Proofs.Ytdooohanhekniaa
