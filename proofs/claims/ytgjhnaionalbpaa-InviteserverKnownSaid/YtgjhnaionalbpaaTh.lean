/- InviteserverKnown's call. -/
import Derived.Test.YtgjhnaionalbpaaTg
namespace Go.Proofs.Ytgjhnaionalbpaa
open Go.RowKit

def kn1 : Sim := giveS startS ⟨4, 100, 0⟩
theorem kn1_len : kn1.log.length ≤ 100 := by decide +kernel
theorem kn1_now : kn1.now = 0 := by decide +kernel
def kn2 : Sim := giveS kn1 ⟨4, 99, 0⟩
theorem kn2_len : kn2.log.length ≤ 100 := by decide +kernel
theorem kn2_now : kn2.now = 0 := by decide +kernel
def kn3 : Sim := giveS kn2 ⟨4, 200, 0⟩
theorem kn3_len : kn3.log.length ≤ 100 := by decide +kernel
theorem kn3_now : kn3.now = 0 := by decide +kernel
def kn4 : Sim := giveS kn3 ⟨1, 0, 0⟩
theorem kn4_len : kn4.log.length ≤ 100 := by decide +kernel
theorem kn4_now : kn4.now = 0 := by decide +kernel
def kn5 : Sim := giveS kn4 ⟨4, 202, 0⟩
theorem kn5_len : kn5.log.length ≤ 100 := by decide +kernel
theorem kn5_now : kn5.now = 0 := by decide +kernel
def kn6 : Sim := giveS kn5 ⟨4, 486, 0⟩
theorem kn6_len : kn6.log.length ≤ 100 := by decide +kernel
theorem kn6_now : kn6.now = 0 := by decide +kernel
def kn7 : Sim := giveS kn6 ⟨6, 0, 0⟩
theorem kn7_len : kn7.log.length ≤ 100 := by decide +kernel
theorem kn7_now : kn7.now = 0 := by decide +kernel
def kn8 : Sim := untilS kn7 32000
theorem kn8_len : kn8.log.length ≤ 100 := by decide +kernel
theorem kn8_now : kn8.now = 32000 := by decide +kernel
def fn1 : Sim := giveS startS ⟨4, 404, 0⟩
theorem fn1_len : fn1.log.length ≤ 100 := by decide +kernel
theorem fn1_now : fn1.now = 0 := by decide +kernel
def fn2 : Sim := giveS fn1 ⟨6, 0, 0⟩
theorem fn2_len : fn2.log.length ≤ 100 := by decide +kernel
theorem fn2_now : fn2.now = 0 := by decide +kernel
theorem kn2_two : kn2.log.length = 2 := by decide +kernel
theorem kn7_m : kn7.m = ⟨4, 0, 202⟩ := by rfl
theorem kn7_c1 : cnt 1 0 200 200 kn7.log = 1 := by decide +kernel
theorem kn7_c2 : cnt 1 0 202 202 kn7.log = 1 := by decide +kernel
theorem kn7_c3 : cnt 1 0 300 699 kn7.log = 0 := by decide +kernel
theorem kn8_m : kn8.m = ⟨7, 0, 202⟩ := by rfl
theorem kn8_c : cnt 5 32000 0 1000 kn8.log = 0 := by decide +kernel
theorem fn2_m : fn2.m = ⟨7, 0, 404⟩ := by rfl
theorem fn2_c : cnt 6 0 0 1000 fn2.log = 1 := by decide +kernel
theorem kn8_closed : Closed kn8 := ((give_inv (give_inv (give_inv (give_inv (give_inv (give_inv (give_inv start_inv 4 100) 4 99) 4 200) 1 0) 4 202) 4 486) 6 0).until_ (t := 32000) (by rw [show (giveS (giveS (giveS (giveS (giveS (giveS (giveS startS ⟨4, 100, 0⟩) ⟨4, 99, 0⟩) ⟨4, 200, 0⟩) ⟨1, 0, 0⟩) ⟨4, 202, 0⟩) ⟨4, 486, 0⟩) ⟨6, 0, 0⟩).now = 0 from kn7_now]; omega)).1.closed
theorem fn2_closed : Closed fn2 := (give_inv (give_inv start_inv 4 404) 6 0).closed
theorem step_k1 (w : World) : Calls Try.prog 25 #[.agg #[.int .u8 3, .int .i64 0, .int .i64 0], .agg #[.int .u8 4, .int .i64 200, .int .u8 0]] w (RetMO w ⟨0, 0, 0⟩ []) := step_any 3 0 0 4 200 0 w
theorem may_k (w : World) : Calls Try.prog 14 #[.agg #[.int .u8 0, .int .i64 0, .int .i64 0]] w fun e w' => e = .returned (.bool false) ∧ Below w.heap.size w w' :=
  (may_any 0 0 0 w).mono fun e w' ⟨he, hw⟩ => ⟨he, by rw [hw]; exact (Below.refl _ _).alloc (Nat.le_refl _) _⟩
theorem copies_k (u : Int) (z : Int) (hz : copiesS u = z) (w : World) : Calls Try.prog 22 #[.int .i64 u] w fun e w' => e = .returned (.int .i64 z) ∧ w = w' := by
  subst hz; exact copies_any u w

set_option maxRecDepth 100000 in
set_option maxHeartbeats 8000000 in
theorem known_law (w : World) : Calls Try.prog 8 #[] w (TrueBelow w) := by
  have hsn := startS_now
  have hsl := startS_log
  go_enter Try.func8, Try.ntmps8
  go_wp2_with fail
  refine (simstart_any _).mono ?_
  rintro e w1 ⟨g, v, rfl, hlo, hS2, hv2, hB⟩
  have A2 : At w g startS w1 := ⟨⟨v, hS2, hv2⟩, hlo, hB⟩
  clear hB
  have HG := Lib.hid (show Calls Try.prog 24 _ w1 (TakeP w1 g v kn1) from answer_any g startS v 100 w1 hS2 (by omega) (by omega) (by omega))
  have HV := Lib.hid hv2; have HB := Lib.hid A2.bw
  clear hS2 hv2 A2
  go_wp2_with fail
  refine HG.out.mono ?_
  rintro e w2 ⟨rfl, h3⟩
  have A2 := At.take HV.out hlo HB.out h3
  clear HG HV HB h3
  obtain ⟨v2, hS2, hv2⟩ := A2.ex
  have HG := Lib.hid (show Calls Try.prog 24 _ w2 (TakeP w2 g v2 kn2) from answer_any g kn1 v2 99 w2 hS2 (by have := kn1_len; omega) (by rw [kn1_now]; omega) (by rw [kn1_now]; omega))
  have HV := Lib.hid hv2; have HB := Lib.hid A2.bw
  clear hS2 hv2 A2
  go_wp2_with fail
  refine HG.out.mono ?_
  rintro e w3 ⟨rfl, h3⟩
  have A2 := At.take HV.out hlo HB.out h3
  clear HG HV HB h3
  obtain ⟨v3, hS2, hv2⟩ := A2.ex
  have hgl := hS2.lt
  have c18 := hS2.clog
  obtain ⟨A, cap, e1, _, _⟩ := hS2.logAt
  rw [kn2_two] at e1
  rw [e1] at c18
  clear e1
  have HG := Lib.hid (show Calls Try.prog 24 _ w3 (TakeP w3 g v3 kn3) from answer_any g kn2 v3 200 w3 hS2 (by have := kn2_len; omega) (by rw [kn2_now]; omega) (by rw [kn2_now]; omega))
  have HV := Lib.hid hv2; have HB := Lib.hid A2.bw
  clear hS2 hv2 A2
  go_wp2_with fail
  refine HG.out.mono ?_
  rintro e w4 ⟨rfl, h3⟩
  have A2 := At.take HV.out hlo HB.out h3
  clear HG HV HB h3
  obtain ⟨v4, hS2, hv2⟩ := A2.ex
  clear c18 hgl
  have HG := Lib.hid (show Calls Try.prog 13 _ w4 (TakeP w4 g v4 kn4) from give_any g kn3 v4 1 0 0 w4 hS2 (by have := kn3_len; omega) (by rw [kn3_now]; omega) (by rw [kn3_now]; omega))
  have HV := Lib.hid hv2; have HB := Lib.hid A2.bw
  clear hS2 hv2 A2
  go_wp2_with fail
  refine HG.out.mono ?_
  rintro e w5 ⟨rfl, h3⟩
  have A2 := At.take HV.out hlo HB.out h3
  clear HG HV HB h3
  obtain ⟨v5, hS2, hv2⟩ := A2.ex
  have HG := Lib.hid (show Calls Try.prog 24 _ w5 (TakeP w5 g v5 kn5) from answer_any g kn4 v5 202 w5 hS2 (by have := kn4_len; omega) (by rw [kn4_now]; omega) (by rw [kn4_now]; omega))
  have HV := Lib.hid hv2; have HB := Lib.hid A2.bw
  clear hS2 hv2 A2
  go_wp2_with fail
  refine HG.out.mono ?_
  rintro e w6 ⟨rfl, h3⟩
  have A2 := At.take HV.out hlo HB.out h3
  clear HG HV HB h3
  obtain ⟨v6, hS2, hv2⟩ := A2.ex
  have HG := Lib.hid (show Calls Try.prog 24 _ w6 (TakeP w6 g v6 kn6) from answer_any g kn5 v6 486 w6 hS2 (by have := kn5_len; omega) (by rw [kn5_now]; omega) (by rw [kn5_now]; omega))
  have HV := Lib.hid hv2; have HB := Lib.hid A2.bw
  clear hS2 hv2 A2
  go_wp2_with fail
  refine HG.out.mono ?_
  rintro e w7 ⟨rfl, h3⟩
  have A2 := At.take HV.out hlo HB.out h3
  clear HG HV HB h3
  obtain ⟨v7, hS2, hv2⟩ := A2.ex
  have HG := Lib.hid (show Calls Try.prog 13 _ w7 (TakeP w7 g v7 kn7) from give_any g kn6 v7 6 0 0 w7 hS2 (by have := kn6_len; omega) (by rw [kn6_now]; omega) (by rw [kn6_now]; omega))
  have HV := Lib.hid hv2; have HB := Lib.hid A2.bw
  clear hS2 hv2 A2
  go_wp2_with fail
  refine HG.out.mono ?_
  rintro e w8 ⟨rfl, h3⟩
  have A2 := At.take HV.out hlo HB.out h3
  clear HG HV HB h3
  obtain ⟨v8, hS2, hv2⟩ := A2.ex
  have hgl := hS2.lt
  have c17 := hS2.cnow
  rw [kn7_now] at c17
  obtain ⟨c0, c1, c2⟩ := hS2.cm
  rw [kn7_m] at c0 c1 c2
  have K1 := Lib.hid (count_any g kn7 v8 1 0 200 200 w8 hS2 (by have := kn7_len; omega))
  have K2 := Lib.hid (count_any g kn7 v8 1 0 202 202 w8 hS2 (by have := kn7_len; omega))
  have K3 := Lib.hid (count_any g kn7 v8 1 0 300 699 w8 hS2 (by have := kn7_len; omega))
  have HU := Lib.hid (show Calls Try.prog 12 _ w8 (TakeP w8 g v8 kn8) from until_any g kn7 v8 32000 w8 hS2 (by have := kn7_len; omega) (by rw [kn7_now]; omega) (by rw [kn7_now]; omega) (by omega))
  have HV := Lib.hid hv2; have HB := Lib.hid A2.bw
  clear hS2 hv2 A2
  go_wp2_with fail
  refine K1.out.mono ?_
  rw [kn7_c1]
  rintro e w' ⟨rfl, rfl⟩
  go_wp2_with fail
  refine K2.out.mono ?_
  rw [kn7_c2]
  rintro e w' ⟨rfl, rfl⟩
  go_wp2_with fail
  refine K3.out.mono ?_
  rw [kn7_c3]
  rintro e w' ⟨rfl, rfl⟩
  go_wp2_with fail
  refine HU.out.mono ?_
  rintro e w9 ⟨rfl, h3⟩
  have A2 := At.take HV.out hlo HB.out h3
  clear HU HV HB h3 c0 c1 c2 c17 hgl K1 K2 K3
  obtain ⟨v9, hS2, hv2⟩ := A2.ex
  have hgl := hS2.lt
  have c17 := hS2.cnow
  rw [kn8_now] at c17
  obtain ⟨c0, c1, c2⟩ := hS2.cm
  rw [kn8_m] at c0 c1 c2
  have HC := Lib.hid (closed_any g kn8 v9 w9 hS2 (by have := kn8_len; omega) kn8_closed)
  have K1 := fun q => Lib.hid (count_any g kn8 v9 5 32000 0 1000 (w9.drewN q) (hS2.drewN q) (by have := kn8_len; omega))
  have KH := Lib.hid K1
  have B9 := Lib.hid A2.bw
  clear hS2 hv2 A2 K1
  go_wp2_with fail
  refine HC.out.mono ?_
  rintro e w10 ⟨rfl, q, rfl⟩
  go_wp2_with fail
  refine (KH.out q).out.mono ?_
  rw [kn8_c]
  rintro e w' ⟨rfl, rfl⟩
  have B10 := Lib.hid (show Below w.heap.size w (w9.drewN q) from ⟨B9.out.os, B9.out.tape, B9.out.output, B9.out.size, B9.out.block⟩)
  clear HC KH c0 c1 c2 c17 hgl hlo B9
  generalize w9.drewN q = W at *

  go_wp2_with fail
  refine (simstart_any _).mono ?_
  rintro e x1 ⟨f, v, rfl, hlo, hS2, hv2, hB⟩
  have A2 : At W f startS x1 := ⟨⟨v, hS2, hv2⟩, hlo, hB⟩
  clear hB
  have HG := Lib.hid (show Calls Try.prog 24 _ x1 (TakeP x1 f v fn1) from answer_any f startS v 404 x1 hS2 (by omega) (by omega) (by omega))
  have HV := Lib.hid hv2; have HB := Lib.hid A2.bw
  clear hS2 hv2 A2
  go_wp2_with fail
  refine HG.out.mono ?_
  rintro e x2 ⟨rfl, h3⟩
  have A2 := At.take HV.out hlo HB.out h3
  clear HG HV HB h3
  obtain ⟨u2, hS2, hv2⟩ := A2.ex
  have HG := Lib.hid (show Calls Try.prog 13 _ x2 (TakeP x2 f u2 fn2) from give_any f fn1 u2 6 0 0 x2 hS2 (by have := fn1_len; omega) (by rw [fn1_now]; omega) (by rw [fn1_now]; omega))
  have HV := Lib.hid hv2; have HB := Lib.hid A2.bw
  clear hS2 hv2 A2
  go_wp2_with fail
  refine HG.out.mono ?_
  rintro e x3 ⟨rfl, h3⟩
  have A2 := At.take HV.out hlo HB.out h3
  clear HG HV HB h3
  obtain ⟨u3, hS2, hv2⟩ := A2.ex
  have hgl := hS2.lt
  have c17 := hS2.cnow
  rw [fn2_now] at c17
  obtain ⟨c0, c1, c2⟩ := hS2.cm
  rw [fn2_m] at c0 c1 c2
  have K1 := Lib.hid (count_any f fn2 u3 6 0 0 1000 x3 hS2 (by have := fn2_len; omega))
  have HC := Lib.hid (closed_any f fn2 u3 x3 hS2 (by have := fn2_len; omega) fn2_closed)
  have B11 := Lib.hid (B10.out.trans (A2.bw.mono B10.out.size))
  clear hS2 hv2 A2 B10
  go_wp2_with fail
  refine K1.out.mono ?_
  rw [fn2_c]
  rintro e w' ⟨rfl, rfl⟩
  go_wp2_with fail
  refine HC.out.mono ?_
  rintro e x4 ⟨rfl, q, rfl⟩
  have B12 := Lib.hid (show Below w.heap.size w (x3.drewN q) from ⟨B11.out.os, B11.out.tape, B11.out.output, B11.out.size, B11.out.block⟩)
  clear HC K1 c0 c1 c2 c17 hgl hlo B11
  generalize x3.drewN q = X at *
  go_wp2_with fail
  refine (step_k1 _).mono ?_
  rintro e x5 ⟨u, rfl, ho, hb⟩
  obtain ⟨A9, cp9, rfl⟩ : ∃ A cp, u = .slice A 0 cp := by obtain ⟨_, A, cp, h, _⟩ := ho; exact ⟨A, cp, h⟩
  have B13 := Lib.hid ((B12.out.trans (hb.mono B12.out.size)).alloc (by have := B12.out.size; have := hb.size; omega) (.cells #[.int .u8 0, .int .i64 0, .int .i64 0] 26))
  clear ho hb B12
  go_wp2_with fail
  refine (copies_k _ 0 (by decide) _).mono ?_
  rintro e w' ⟨rfl, rfl⟩
  go_wp2_with fail
  refine (copies_k _ 1 (by decide) _).mono ?_
  rintro e w' ⟨rfl, rfl⟩
  go_wp2_with fail
  refine (copies_k _ 4 (by decide) _).mono ?_
  rintro e w' ⟨rfl, rfl⟩
  go_wp2_with fail
  refine (copies_k _ 11 (by decide) _).mono ?_
  rintro e w' ⟨rfl, rfl⟩
  go_wp2_with fail
  refine (may_k _).mono ?_
  rintro e x6 ⟨rfl, hb⟩
  have B14 := Lib.hid (B13.out.trans (hb.mono B13.out.size))
  clear hb B13
  go_wp2_with fail
  refine (works_any _).mono ?_
  rintro e x7 ⟨rfl, hb⟩
  have B15 := Lib.hid (B14.out.trans (hb.mono B14.out.size))
  clear hb B14
  go_wp2_with fail
  go_ret
  exact ⟨rfl, B15.out⟩
end Go.Proofs.Ytgjhnaionalbpaa
