/- Plain laws of RefreshLives. The law RefreshLives. -/
import Derived.Test.YtcnkjgjimcddiaaGreatDoorEo
import Derived.Test.YtcnkjgjimcddiaaGreatDoorEt
import Derived.Test.YtcnkjgjimcddiaaGreatDoorEy
import Derived.Test.YtcnkjgjimcddiaaGreatDoorEs
namespace Go.Proofs.YtcnkjgjimcddiaaGreatDoor
open Go.RowKit

theorem fire_wait {S t now M : Int} (b0 : 90 ≤ S) (b1 : S ≤ 86400) (b2 : 0 ≤ t) (b3 : t ≤ 1099511627776) (hM : limR S t = M) (h : now < M) (h4 : 0 ≤ now) (h5 : now ≤ 1099511627776) : fireV S false t false false now = .tuple #[.agg #[.int .i64 S, .bool false, .int .i64 t, .bool false, .bool false], .int .u8 0, .int .u8 0] := by
  unfold fireV
  rw [if_neg (by rw [may_in b0 b1 b2 b3 (.inr rfl)]; simp [tmOK]; omega), if_pos (by rw [nextR_lim (.inl rfl), hM]; exact .inr (.inr h))]
theorem done_in {S t now : Int} (b0 : 90 ≤ S) (b1 : S ≤ 86400) (b2 : 0 ≤ t) (b3 : t ≤ 1099511627776) {o p : Bool} (h : o = true ∨ p = false) (h4 : 0 ≤ now) (h5 : now ≤ 1099511627776) : doneV S o t p false true now = .tuple #[.agg #[.int .i64 S, .bool o, .int .i64 now, .bool false, .bool false], .int .u8 0, .int .u8 0] := by
  unfold doneV
  rw [if_neg (by rw [may_in b0 b1 b2 b3 h]; simp [tmOK]; omega), if_neg (by simp; omega), if_pos rfl]
/-- A slice of 16 bit numbers. -/
def Ds (w : World) (B : Nat) (A : Option Addr) (xs : List Int) : Prop := 0 < xs.length → ∃ ad, A = some ad ∧ ad.block < B ∧ ∀ (j : Nat) x, xs[j]? = some x → w.cell? (ad.add j) = some (.int .u16 x)
theorem Ds.below {w w' : World} {B : Nat} {A : Option Addr} {xs : List Int} (h : Ds w B A xs) (hb : Below B w w') : Ds w' B A xs := fun hn => by
  obtain ⟨ad, h1, h2, h3⟩ := h hn
  exact ⟨ad, h1, h2, fun j x hx => (hb.cell (by rw [add_block]; exact h2)).trans (h3 j x hx)⟩
def DsW (w : World) (A : Option Addr) (xs : List Int) : Prop := Ds w w.heap.size A xs
end Go.Proofs.YtcnkjgjimcddiaaGreatDoor
namespace Go.Proofs.YtcnkjgjimcddiaaGreatDoor
open Go.RowKit

theorem act_four {ops : Array Oper} {a a' : Act} {d0 d1 d2 d3 : Tmp} {v0 v1 v2 v3 : Value} (hF : Fr ops a a') (hd : ∀ (i : Nat) (o : Oper), ops[i]? = some o → o.dst = some d0 ∨ o.dst = some d1 ∨ o.dst = some d2 ∨ o.dst = some d3 ∨ o.dst = none) (h0 : a'.tmps.getD d0 undef = v0) (h1 : a'.tmps.getD d1 undef = v1) (h2 : a'.tmps.getD d2 undef = v2) (h3 : a'.tmps.getD d3 undef = v3) (l0 : d0 < a.tmps.size) (l1 : d1 < a.tmps.size) (l2 : d2 < a.tmps.size) (l3 : d3 < a.tmps.size) (n01 : d0 ≠ d1) (n02 : d0 ≠ d2) (n03 : d0 ≠ d3) (n12 : d1 ≠ d2) (n13 : d1 ≠ d3) (n23 : d2 ≠ d3) :
    a' = (((a.put (some d0) v0).put (some d1) v1).put (some d2) v2).put (some d3) v3 := by
  obtain ⟨f1, f2, f3⟩ := hF
  refine act_ext (by simp only [size_put]; exact f1) (by simp only [defers_put]; exact f2) fun s => ?_
  by_cases e3 : s = d3
  · subst e3
    rw [getD_put_same (by simp only [size_put]; exact l3)]
    exact h3
  rw [getD_put_other (by intro h; exact e3 (Option.some.inj h).symm)]
  by_cases e2 : s = d2
  · subst e2
    rw [getD_put_same (by simp only [size_put]; exact l2)]
    exact h2
  rw [getD_put_other (by intro h; exact e2 (Option.some.inj h).symm)]
  by_cases e1 : s = d1
  · subst e1
    rw [getD_put_same (by simp only [size_put]; exact l1)]
    exact h1
  rw [getD_put_other (by intro h; exact e1 (Option.some.inj h).symm)]
  by_cases e0 : s = d0
  · subst e0
    rw [getD_put_same l0]
    exact h0
  rw [getD_put_other (by intro h; exact e0 (Option.some.inj h).symm)]
  exact f3 s fun i o ho h => by
    rcases hd i o ho with h2 | h2 | h2 | h2 | h2
    · exact e0 (Option.some.inj (h.symm.trans h2))
    · exact e1 (Option.some.inj (h.symm.trans h2))
    · exact e2 (Option.some.inj (h.symm.trans h2))
    · exact e3 (Option.some.inj (h.symm.trans h2))
    · rw [h2] at h; cases h
set_option maxRecDepth 100000 in
set_option maxHeartbeats 8000000 in
theorem lives_at (S sec : Int) (C : Option Addr) (cn cc : Nat) (xs : List Int) (w : World) (hE : 90 + sec % 3600 = S) (c0 : 0 ≤ sec) (c1 : sec ≤ 65535) (z0 : 90 ≤ S) (z1 : S ≤ 86400) (z9 : S ≤ 3689) (hC : DsW w C xs) (hcn : xs.length = cn) (hx : ∀ x ∈ xs, 0 ≤ x ∧ x ≤ 65535) (hS : SC w) (hK : KD w) :
    Calls Tryz.prog 5 #[.int .u16 sec, .slice C cn cc] w fun e w' => e = .returned (.bool true) ∧ Below w.heap.size w w' := by
  have HS := Lib.hid hS; have HK := Lib.hid hK; have HE := Lib.hid hE; have HC := Lib.hid hC; have HCN := Lib.hid hcn; have HX := Lib.hid hx
  clear hS hK hE hC hcn hx
  have ST := Lib.hid (Mine.refl w)
  go_enter Tryz.func5, Tryz.ntmps5
  go_upto_region 2 with (fail)
  have hE2 := HE.out
  simp only [hE2] at *
  clear hE2
  replace ST := Lib.hid ((show Mine w (w.alloc (.cells #[.int .i64 0, .int .i64 0, .int .i64 S, .bool true] 25)) ((w.heap.size, 25, [.int .i64 0, .int .i64 0, .int .i64 S, .bool true]) :: []) _ from ST.out.alloc 25 [.int .i64 0, .int .i64 0, .int .i64 S, .bool true]).rest)
  generalize w.alloc (.cells #[.int .i64 0, .int .i64 0, .int .i64 S, .bool true] 25) = Y1 at *
  generalize w.heap.size = b1 at *
  go_wp2_with (with_reducible refine wpList_loadR rfl 25 (.tmp 5) rfl (show Row _ b1 25 [.int .i64 0, .int .i64 0, .int .i64 S, .bool true] from ST.out.fact (i := 0) rfl) rfl Tryz.underlying25 rfl (sizeAg _ _ _ _) ?_)
  refine (startt_any 0 0 S 0 true true _).mono ?_
  rintro e X2 ⟨rfl, hb⟩
  rw [start_in z0 z1 (by omega) (by omega) true true]
  replace ST := Lib.hid (ST.out.call hb)
  clear hb
  go_upto_region 3 with (fail)
  replace ST := Lib.hid (show Mine w (X2.alloc (.cells #[.int .i64 S, .bool true, .int .i64 0, .bool false, .bool false] 23)) [(X2.heap.size, 23, [.int .i64 S, .bool true, .int .i64 0, .bool false, .bool false])] [(fun W => Row W b1 25 [.int .i64 0, .int .i64 0, .int .i64 S, .bool true])] from ST.out.alloc 23 [.int .i64 S, .bool true, .int .i64 0, .bool false, .bool false])
  generalize X2.alloc (.cells #[.int .i64 S, .bool true, .int .i64 0, .bool false, .bool false] 23) = Y6 at *
  generalize X2.heap.size = bP at *
  go_wp2_with (with_reducible refine wpList_loadR rfl 25 (.tmp 5) rfl (show Row _ b1 25 [.int .i64 0, .int .i64 0, .int .i64 S, .bool true] from ST.out.fact (i := 0) rfl) rfl Tryz.underlying25 rfl (sizeAg _ _ _ _) ?_)
  refine (startt_any 0 0 S 0 true false _).mono ?_
  rintro e X3 ⟨rfl, hb⟩
  rw [start_in z0 z1 (by omega) (by omega) true false]
  replace ST := Lib.hid (ST.out.call hb)
  clear hb
  go_upto_region 4 with (fail)
  replace ST := Lib.hid (show Mine w (X3.alloc (.cells #[.int .i64 S, .bool false, .int .i64 0, .bool false, .bool false] 23)) [(X3.heap.size, 23, [.int .i64 S, .bool false, .int .i64 0, .bool false, .bool false]), (bP, 23, [.int .i64 S, .bool true, .int .i64 0, .bool false, .bool false])] [(fun W => Row W b1 25 [.int .i64 0, .int .i64 0, .int .i64 S, .bool true])] from ST.out.alloc 23 [.int .i64 S, .bool false, .int .i64 0, .bool false, .bool false])
  generalize X3.alloc (.cells #[.int .i64 S, .bool false, .int .i64 0, .bool false, .bool false] 23) = Y8 at *
  generalize X3.heap.size = bQ at *
  go_wp2_with fail
  go_loopw [10, 11] (fun v10 v11 wr => ∃ (last : Int) (k : Nat), v10 = .int .i64 last ∧ v11 = .int .i64 k ∧ k ≤ 50 ∧ k ≤ cn ∧ 0 ≤ last ∧ last ≤ 3689000 * (k : Int) ∧ Hid (Mine w wr [(bQ, 23, [.int .i64 S, .bool false, .int .i64 last, .bool false, .bool false]), (bP, 23, [.int .i64 S, .bool true, .int .i64 last, .bool false, .bool false])] [(fun W => Row W b1 25 [.int .i64 0, .int .i64 0, .int .i64 S, .bool true])])) (fun _ v11 _ => 50 - (intOf v11).toNat)
  case atStart => exact ⟨0, 0, rfl, rfl, by omega, by omega, by omega, by omega, ST⟩
  case round =>
    clear ST
    obtain ⟨last, k, rfl, rfl, hk, hkc, hl0, hl1, ST⟩ := hrel
    have z5 : last ≤ 1099511627776 := by omega
    by_cases hlt : k < cn
    · have hd : decide (k < cn) = true := by simp [hlt]
      have hd2 : decide ((k : Int) < (cn : Int)) = true := by simp; omega
      by_cases hlt2 : k < 50
      · have hd3 : decide (k < 50) = true := by simp [hlt2]
        have hd4 : decide ((k : Int) < 50) = true := by simp; omega
        obtain ⟨x, hxx⟩ : ∃ x, xs[k]? = some x := ⟨_, List.getElem?_eq_getElem (by rw [HCN.out]; exact hlt)⟩
        obtain ⟨x0, x1⟩ := HX.out x (List.mem_of_getElem? hxx)
        obtain ⟨ad, rfl, had, hcs⟩ := HC.out (by rw [HCN.out]; omega)
        have CX := Lib.hid (hcs k x hxx); have AD := Lib.hid had
        clear hcs hxx had
        have i0 : (0 : Int) ≤ (k : Int) := by omega
        have i1 : (k : Int) < (cn : Int) := by omega
        obtain ⟨M, hM⟩ : ∃ M, limR S last = M := ⟨_, rfl⟩
        obtain ⟨m1, m2⟩ := lim_in z0 hM
        have HM := Lib.hid hM; clear hM
        obtain ⟨N, hN⟩ : ∃ N, last + 500 * S = N := ⟨_, rfl⟩
        have m3 : N < M := by omega
        have m4 : last ≤ N := by omega
        have m5 : N ≤ 1099511627776 := by omega
        have HN := Lib.hid hN
        rw [HN.out] at m1
        clear hN m1
        go_wp2_with (with_reducible refine wpList_loadR rfl 23 (.tmp 6) rfl (show Row _ bP 23 [.int .i64 S, .bool true, .int .i64 last, .bool false, .bool false] from ST.out.row (i := 1) rfl) rfl Tryz.underlying23 rfl (sizeRf _ _ _ _ _) ?_)
        refine (nextt_any S last true false false _).mono ?_
        rintro e X1 ⟨rfl, hb⟩
        rw [next_in z0 z1 hl0 z5 (.inr rfl), nextR_now ⟨rfl, rfl⟩, HN.out]
        replace ST := Lib.hid (ST.out.call hb)
        clear hb
        go_wp2_with (with_reducible refine wpList_loadR rfl 23 (.tmp 8) rfl (show Row _ bQ 23 [.int .i64 S, .bool false, .int .i64 last, .bool false, .bool false] from ST.out.row (i := 0) rfl) rfl Tryz.underlying23 rfl (sizeRf _ _ _ _ _) ?_)
        refine (nextt_any S last false false false _).mono ?_
        rintro e X2 ⟨rfl, hb⟩
        rw [next_in z0 z1 hl0 z5 (.inr rfl), nextR_lim (.inl rfl), HM.out]
        replace ST := Lib.hid (ST.out.call hb)
        clear hb
        go_wp2_with (with_reducible refine wpList_loadR rfl 23 (.tmp 6) rfl (show Row _ bP 23 [.int .i64 S, .bool true, .int .i64 last, .bool false, .bool false] from ST.out.row (i := 1) rfl) rfl Tryz.underlying23 rfl (sizeRf _ _ _ _ _) ?_)
        refine (firet_any S last N true false false _).mono ?_
        rintro e X3 ⟨rfl, hb⟩
        rw [fire_send z0 z1 hl0 z5 HN.out.symm HM.out m3 m5]
        replace ST := Lib.hid (ST.out.call hb)
        clear hb
        go_upto_region 15 with (fail)
        replace ST := Lib.hid ((show Mine w (X3.alloc (.cells #[.int .i64 S, .bool true, .int .i64 last, .bool true, .bool false] 23)) ((X3.heap.size, 23, [.int .i64 S, .bool true, .int .i64 last, .bool true, .bool false]) :: [(bQ, 23, [.int .i64 S, .bool false, .int .i64 last, .bool false, .bool false]), (bP, 23, [.int .i64 S, .bool true, .int .i64 last, .bool false, .bool false])]) _ from ST.out.alloc 23 [.int .i64 S, .bool true, .int .i64 last, .bool true, .bool false]).rest)
        generalize X3.alloc (.cells #[.int .i64 S, .bool true, .int .i64 last, .bool true, .bool false] 23) = Y4 at *
        generalize X3.heap.size = b4 at *
        have cx := (ST.out.bw.cell (p := ad.add k) (by rw [add_block]; exact AD.out)).trans CX.out
        obtain ⟨q, hq⟩ : ∃ q, x.tmod (M - N) = q := ⟨_, rfl⟩
        have q0 : 0 ≤ q := by rw [← hq]; exact Int.tmod_nonneg _ x0
        have q1 : q < M - N := by rw [← hq]; exact Int.tmod_lt_of_pos _ (by omega)
        obtain ⟨T, hT⟩ : ∃ T, N + q = T := ⟨_, rfl⟩
        have t0 : N ≤ T := by omega
        have t1 : T < M := by omega
        have t2 : T ≤ 1099511627776 := by omega
        have t3 : T ≤ 3689000 * ((k : Int) + 1) := by omega
        go_upto_region 18 with (fail)
        clear cx
        go_wp2_with (with_reducible refine wpList_loadR rfl 23 (.tmp 8) rfl (show Row _ bQ 23 [.int .i64 S, .bool false, .int .i64 last, .bool false, .bool false] from ST.out.row (i := 0) rfl) rfl Tryz.underlying23 rfl (sizeRf _ _ _ _ _) ?_)
        refine (firet_any S last T false false false _).mono ?_
        rintro e X5 ⟨rfl, hb⟩
        rw [fire_wait z0 z1 hl0 z5 HM.out t1 (by omega) t2]
        replace ST := Lib.hid (ST.out.call hb)
        clear hb
        go_upto_region 19 with (fail)
        replace ST := Lib.hid ((show Mine w (X5.alloc (.cells #[.int .i64 S, .bool false, .int .i64 last, .bool false, .bool false] 23)) ((X5.heap.size, 23, [.int .i64 S, .bool false, .int .i64 last, .bool false, .bool false]) :: [(bQ, 23, [.int .i64 S, .bool false, .int .i64 last, .bool false, .bool false]), (bP, 23, [.int .i64 S, .bool true, .int .i64 last, .bool false, .bool false])]) _ from ST.out.alloc 23 [.int .i64 S, .bool false, .int .i64 last, .bool false, .bool false]).rest)
        generalize X5.alloc (.cells #[.int .i64 S, .bool false, .int .i64 last, .bool false, .bool false] 23) = Y6 at *
        generalize X5.heap.size = b6 at *
        have hg := guardR; have sR := sameR
        have hse : ∀ (xs ys : Array Value) (w : World), (binOp .neq 23 (.agg xs) (.agg ys)).run Tryz.prog w = ((Op.equalIn 10000 23 (.agg xs) (.agg ys)).run Tryz.prog w).andThen fun b w' => .ok (.bool (!b)) w' := fun xs ys w => run_neq_struct w _ xs ys
        have k20_0 := (show Row _ b6 23 [.int .i64 S, .bool false, .int .i64 last, .bool false, .bool false] from ST.out.fact (i := 0) rfl).cell 0; have k20_1 := (show Row _ b6 23 [.int .i64 S, .bool false, .int .i64 last, .bool false, .bool false] from ST.out.fact (i := 0) rfl).cell 1; have k20_2 := (show Row _ b6 23 [.int .i64 S, .bool false, .int .i64 last, .bool false, .bool false] from ST.out.fact (i := 0) rfl).cell 2; have k20_3 := (show Row _ b6 23 [.int .i64 S, .bool false, .int .i64 last, .bool false, .bool false] from ST.out.fact (i := 0) rfl).cell 3; have k20_4 := (show Row _ b6 23 [.int .i64 S, .bool false, .int .i64 last, .bool false, .bool false] from ST.out.fact (i := 0) rfl).cell 4
        simp only [List.getElem?_cons_succ, List.getElem?_cons_zero] at k20_0 k20_1 k20_2 k20_3 k20_4
        have k8_0 := (show Row _ bQ 23 [.int .i64 S, .bool false, .int .i64 last, .bool false, .bool false] from ST.out.row (i := 0) rfl).cell 0
        have k8_1 := (show Row _ bQ 23 [.int .i64 S, .bool false, .int .i64 last, .bool false, .bool false] from ST.out.row (i := 0) rfl).cell 1
        have k8_2 := (show Row _ bQ 23 [.int .i64 S, .bool false, .int .i64 last, .bool false, .bool false] from ST.out.row (i := 0) rfl).cell 2
        have k8_3 := (show Row _ bQ 23 [.int .i64 S, .bool false, .int .i64 last, .bool false, .bool false] from ST.out.row (i := 0) rfl).cell 3
        have k8_4 := (show Row _ bQ 23 [.int .i64 S, .bool false, .int .i64 last, .bool false, .bool false] from ST.out.row (i := 0) rfl).cell 4
        simp only [List.getElem?_cons_succ, List.getElem?_cons_zero] at k8_0 k8_1 k8_2 k8_3 k8_4
        go_upto_region 21 with (fail)
        clear hg sR hse k8_0 k20_0 k8_1 k20_1 k8_2 k20_2 k8_3 k20_3 k8_4 k20_4
        go_wp2_with (with_reducible refine wpList_loadR rfl 23 (.tmp 16) rfl (show Row _ b4 23 [.int .i64 S, .bool true, .int .i64 last, .bool true, .bool false] from ST.out.fact (i := 1) rfl) rfl Tryz.underlying23 rfl (sizeRf _ _ _ _ _) ?_)
        refine (donet_any S last T true true false true _).mono ?_
        rintro e X7 ⟨rfl, hb⟩
        rw [done_in z0 z1 hl0 z5 (.inl rfl) (by omega) t2]
        replace ST := Lib.hid (ST.out.call hb)
        clear hb
        go_upto_region 22 with (fail)
        replace ST := Lib.hid ((show Mine w (X7.alloc (.cells #[.int .i64 S, .bool true, .int .i64 T, .bool false, .bool false] 23)) ((X7.heap.size, 23, [.int .i64 S, .bool true, .int .i64 T, .bool false, .bool false]) :: [(bQ, 23, [.int .i64 S, .bool false, .int .i64 last, .bool false, .bool false]), (bP, 23, [.int .i64 S, .bool true, .int .i64 last, .bool false, .bool false])]) _ from ST.out.alloc 23 [.int .i64 S, .bool true, .int .i64 T, .bool false, .bool false]).rest)
        generalize X7.alloc (.cells #[.int .i64 S, .bool true, .int .i64 T, .bool false, .bool false] 23) = Y8 at *
        generalize X7.heap.size = b8 at *
        go_wp2_with (with_reducible refine wpList_loadR rfl 23 (.tmp 8) rfl (show Row _ bQ 23 [.int .i64 S, .bool false, .int .i64 last, .bool false, .bool false] from ST.out.row (i := 0) rfl) rfl Tryz.underlying23 rfl (sizeRf _ _ _ _ _) ?_)
        refine (donet_any S last T false false false true _).mono ?_
        rintro e X9 ⟨rfl, hb⟩
        rw [done_in z0 z1 hl0 z5 (.inr rfl) (by omega) t2]
        replace ST := Lib.hid (ST.out.call hb)
        clear hb
        go_upto_region 23 with (fail)
        replace ST := Lib.hid ((show Mine w (X9.alloc (.cells #[.int .i64 S, .bool false, .int .i64 T, .bool false, .bool false] 23)) ((X9.heap.size, 23, [.int .i64 S, .bool false, .int .i64 T, .bool false, .bool false]) :: [(bQ, 23, [.int .i64 S, .bool false, .int .i64 last, .bool false, .bool false]), (bP, 23, [.int .i64 S, .bool true, .int .i64 last, .bool false, .bool false])]) _ from ST.out.alloc 23 [.int .i64 S, .bool false, .int .i64 T, .bool false, .bool false]).rest)
        generalize X9.alloc (.cells #[.int .i64 S, .bool false, .int .i64 T, .bool false, .bool false] 23) = Y10 at *
        generalize X9.heap.size = b10 at *
        have k23_4 := (show Row _ b8 23 [.int .i64 S, .bool true, .int .i64 T, .bool false, .bool false] from ST.out.fact (i := 1) rfl).cell 4
        simp only [List.getElem?_cons_succ, List.getElem?_cons_zero] at k23_4
        have k26_4 := (show Row _ b10 23 [.int .i64 S, .bool false, .int .i64 T, .bool false, .bool false] from ST.out.fact (i := 0) rfl).cell 4
        simp only [List.getElem?_cons_succ, List.getElem?_cons_zero] at k26_4
        go_upto_region 25 with (fail)
        clear k23_4 k26_4
        refine region_dag (by kernel_rfl) (by kernel_rfl) (fun j _ v => (j = 0 → v = .agg #[.int .i64 S, .bool true, .int .i64 T, .bool false, .bool false]) ∧ (j = 1 → v = .agg #[.int .i64 S, .bool false, .int .i64 T, .bool false, .bool false]) ∧ (j = 2 → v = .int .i64 T) ∧ (j = 5 → v = .int .i64 T)) (fun L _ W => ∃ vp vq, Mine w W [(bQ, 23, vq), (bP, 23, vp)] [(fun W => Row W b10 23 [.int .i64 S, .bool false, .int .i64 T, .bool false, .bool false]), (fun W => Row W b8 23 [.int .i64 S, .bool true, .int .i64 T, .bool false, .bool false]), (fun W => Row W b6 23 [.int .i64 S, .bool false, .int .i64 last, .bool false, .bool false]), (fun W => Row W b4 23 [.int .i64 S, .bool true, .int .i64 last, .bool true, .bool false]), (fun W => Row W b1 25 [.int .i64 0, .int .i64 0, .int .i64 S, .bool true])] ∧ (L 3 = true → vp = [.int .i64 S, .bool true, .int .i64 T, .bool false, .bool false]) ∧ (L 4 = true → vq = [.int .i64 S, .bool false, .int .i64 T, .bool false, .bool false]) ∧ vp.length = 5 ∧ vq.length = 5) (by kernel_rfl) ⟨_, _, ST.out.drew, (fun h => by cases h), (fun h => by cases h), rfl, rfl⟩ ?hstep ?hend
        case hstep =>
          intro L a' W j o hI ho hL hdep
          have hD : DepsOk _ (fun j _ v => (j = 0 → v = .agg #[.int .i64 S, .bool true, .int .i64 T, .bool false, .bool false]) ∧ (j = 1 → v = .agg #[.int .i64 S, .bool false, .int .i64 T, .bool false, .bool false]) ∧ (j = 2 → v = .int .i64 T) ∧ (j = 5 → v = .int .i64 T)) o a' W := fun e he hb oj d h1 h2 => hI.2.1 e.on oj d h1 h2 (hdep e he hb)
          obtain ⟨hF, hA, vp, vq, hM, g1, g2, l1, l2⟩ := hI
          match j, ho with
          | 0, ho =>
            obtain rfl := Option.some.inj ho
            exact rel_free ho rfl (wp_load1 23 (.tmp 23) rfl b8 0 [.int .i64 S, .bool true, .int .i64 T, .bool false, .bool false] _ ((free_eval hF (by kernel_rfl)).trans rfl) (show Row _ b8 23 [.int .i64 S, .bool true, .int .i64 T, .bool false, .bool false] from hM.fact (i := 1) rfl).range Tryz.underlying23 rfl (sizeRf _ _ _ _ _) ⟨_, rfl, fun _ _ h => h, fun _ _ => ⟨fun _ => rfl, fun h => absurd h (by decide), fun h => absurd h (by decide), fun h => absurd h (by decide)⟩, vp, vq, hM, fun h => g1 (by simpa [upd] using h), fun h => g2 (by simpa [upd] using h), l1, l2⟩)
          | 1, ho =>
            obtain rfl := Option.some.inj ho
            exact rel_free ho rfl (wp_load1 23 (.tmp 26) rfl b10 0 [.int .i64 S, .bool false, .int .i64 T, .bool false, .bool false] _ ((free_eval hF (by kernel_rfl)).trans rfl) (show Row _ b10 23 [.int .i64 S, .bool false, .int .i64 T, .bool false, .bool false] from hM.fact (i := 0) rfl).range Tryz.underlying23 rfl (sizeRf _ _ _ _ _) ⟨_, rfl, fun _ _ h => h, fun _ _ => ⟨fun h => absurd h (by decide), fun _ => rfl, fun h => absurd h (by decide), fun h => absurd h (by decide)⟩, vp, vq, hM, fun h => g1 (by simpa [upd] using h), fun h => g2 (by simpa [upd] using h), l1, l2⟩)
          | 2, ho =>
            obtain rfl := Option.some.inj ho
            exact rel_free ho rfl (wp_mv1 (.tmp 19) (.inl rfl) ⟨_, rfl, fun _ _ h => h, fun _ _ => ⟨fun h => absurd h (by decide), fun h => absurd h (by decide), fun _ => (free_eval hF (by kernel_rfl)).trans rfl, fun h => absurd h (by decide)⟩, vp, vq, hM, fun h => g1 (by simpa [upd] using h), fun h => g2 (by simpa [upd] using h), l1, l2⟩)
          | 3, ho =>
            obtain rfl := Option.some.inj ho
            have hy := (dep_eval hD 0 (d := 162) (by kernel_rfl) rfl rfl).1 rfl
            have ht := (hM.row (i := 1) rfl).there
            rw [l1] at ht
            exact rel_free ho rfl (wp_store_mid 23 (.tmp 6) (.tmp 162) rfl bP 0 #[.int .i64 S, .bool true, .int .i64 T, .bool false, .bool false] ((free_eval hF (by kernel_rfl)).trans rfl) hy ht (sizeRf _ _ _ _ _) (all_oneCell_toArray (rf_one _ _ _ _ _)) ⟨undef, rfl, fun _ _ h => h, (fun d h => by cases h), [.int .i64 S, .bool true, .int .i64 T, .bool false, .bool false], vq, mine_put hM [.int .i64 S, .bool true, .int .i64 T, .bool false, .bool false] (i := 1) rfl l1, fun _ => rfl, fun h => g2 (by simpa [upd] using h), rfl, l2⟩)
          | 4, ho =>
            obtain rfl := Option.some.inj ho
            have hy := (dep_eval hD 1 (d := 163) (by kernel_rfl) rfl rfl).2.1 rfl
            have ht := (hM.row (i := 0) rfl).there
            rw [l2] at ht
            exact rel_free ho rfl (wp_store_mid 23 (.tmp 8) (.tmp 163) rfl bQ 0 #[.int .i64 S, .bool false, .int .i64 T, .bool false, .bool false] ((free_eval hF (by kernel_rfl)).trans rfl) hy ht (sizeRf _ _ _ _ _) (all_oneCell_toArray (rf_one _ _ _ _ _)) ⟨undef, rfl, fun _ _ h => h, (fun d h => by cases h), vp, [.int .i64 S, .bool false, .int .i64 T, .bool false, .bool false], mine_put hM [.int .i64 S, .bool false, .int .i64 T, .bool false, .bool false] (i := 0) rfl l2, fun h => g1 (by simpa [upd] using h), fun _ => rfl, l1, rfl⟩)
          | 5, ho =>
            obtain rfl := Option.some.inj ho
            exact rel_free ho rfl (wp_mv1 (.tmp 164) (.inr rfl) ⟨_, rfl, fun _ _ h => h, fun _ _ => ⟨fun h => absurd h (by decide), fun h => absurd h (by decide), fun h => absurd h (by decide), fun _ => (dep_eval hD 2 (d := 164) (by kernel_rfl) rfl rfl).2.2.1 rfl⟩, vp, vq, hM, fun h => g1 (by simpa [upd] using h), fun h => g2 (by simpa [upd] using h), l1, l2⟩)
          | j + 6, ho => exact absurd ho (by simp)
        case hend =>
          intro L a' W hF hA hall hG
          obtain ⟨vp, vq, hM, g1, g2, _, _⟩ := hG
          obtain rfl := g1 (hall 3 (by simp))
          obtain rfl := g2 (hall 4 (by simp))
          have hx := act_four (d0 := 162) (d1 := 163) (d2 := 164) (d3 := 10) hF (fun i o ho => by
            match i, ho with
            | 0, ho => obtain rfl := Option.some.inj ho; exact .inl rfl
            | 1, ho => obtain rfl := Option.some.inj ho; exact .inr (.inl rfl)
            | 2, ho => obtain rfl := Option.some.inj ho; exact .inr (.inr (.inl rfl))
            | 3, ho => obtain rfl := Option.some.inj ho; exact .inr (.inr (.inr (.inr rfl)))
            | 4, ho => obtain rfl := Option.some.inj ho; exact .inr (.inr (.inr (.inr rfl)))
            | 5, ho => obtain rfl := Option.some.inj ho; exact .inr (.inr (.inr (.inl rfl)))
            | i + 6, ho => exact absurd ho (by simp)) ((hA 0 _ 162 rfl rfl).1 rfl) ((hA 1 _ 163 rfl rfl).2.1 rfl) ((hA 2 _ 164 rfl rfl).2.2.1 rfl) ((hA 5 _ 10 rfl rfl).2.2.2 rfl) (of_decide_eq_true (by kernel_rfl)) (of_decide_eq_true (by kernel_rfl)) (of_decide_eq_true (by kernel_rfl)) (of_decide_eq_true (by kernel_rfl)) (by decide) (by decide) (by decide) (by decide) (by decide) (by decide)
          subst hx
          simp only [Act.put, List.setIfInBounds_toArray, List.set_cons_zero, List.set_cons_succ]
          replace ST := Lib.hid hM
          clear hF hA hall hM g1 g2
          go_wp2_with fail
          go_roundw
          case rel => exact ⟨T, k + 1, rfl, by go_num, by omega, by omega, by omega, by omega, Lib.hid (show Mine w _ [(bQ, 23, [.int .i64 S, .bool false, .int .i64 T, .bool false, .bool false]), (bP, 23, [.int .i64 S, .bool true, .int .i64 T, .bool false, .bool false])] [(fun W => Row W b1 25 [.int .i64 0, .int .i64 0, .int .i64 S, .bool true])] from ST.out.less (fun F hF => by
            simp only [List.mem_cons, List.not_mem_nil, or_false] at hF ⊢
            subst hF; simp))⟩
          case measure => simp [intOf]; omega
      · have hd3 : decide (k < 50) = false := by simp [hlt2]
        have hd4 : decide ((k : Int) < 50) = false := by simp; omega
        obtain ⟨M, hM⟩ : ∃ M, limR S last = M := ⟨_, rfl⟩
        obtain ⟨m1, m2⟩ := lim_in z0 hM
        have HM := Lib.hid hM; clear hM
        go_wp2_with (with_reducible refine wpList_loadR rfl 23 (.tmp 8) rfl (show Row _ bQ 23 [.int .i64 S, .bool false, .int .i64 last, .bool false, .bool false] from ST.out.row (i := 0) rfl) rfl Tryz.underlying23 rfl (sizeRf _ _ _ _ _) ?_)
        refine (nextt_any S last false false false _).mono ?_
        rintro e X1 ⟨rfl, hb⟩
        rw [next_in z0 z1 hl0 z5 (.inr rfl), nextR_lim (.inl rfl), HM.out]
        replace ST := Lib.hid (ST.out.call hb)
        clear hb
        go_wp2_with (with_reducible refine wpList_loadR rfl 23 (.tmp 8) rfl (show Row _ bQ 23 [.int .i64 S, .bool false, .int .i64 last, .bool false, .bool false] from ST.out.row (i := 0) rfl) rfl Tryz.underlying23 rfl (sizeRf _ _ _ _ _) ?_)
        refine (firet_any S last (M - 1) false false false _).mono ?_
        rintro e X2 ⟨rfl, hb⟩
        rw [fire_wait z0 z1 hl0 z5 HM.out (by omega) (by omega) (by omega)]
        replace ST := Lib.hid (ST.out.call hb)
        clear hb
        go_upto_region 28 with (fail)
        replace ST := Lib.hid ((show Mine w (X2.alloc (.cells #[.int .i64 S, .bool false, .int .i64 last, .bool false, .bool false] 23)) ((X2.heap.size, 23, [.int .i64 S, .bool false, .int .i64 last, .bool false, .bool false]) :: [(bQ, 23, [.int .i64 S, .bool false, .int .i64 last, .bool false, .bool false]), (bP, 23, [.int .i64 S, .bool true, .int .i64 last, .bool false, .bool false])]) _ from ST.out.alloc 23 [.int .i64 S, .bool false, .int .i64 last, .bool false, .bool false]).rest)
        generalize X2.alloc (.cells #[.int .i64 S, .bool false, .int .i64 last, .bool false, .bool false] 23) = Y3 at *
        generalize X2.heap.size = b3 at *
        go_wp2_with (with_reducible refine wpList_loadR rfl 23 (.tmp 31) rfl (show Row _ b3 23 [.int .i64 S, .bool false, .int .i64 last, .bool false, .bool false] from ST.out.fact (i := 0) rfl) rfl Tryz.underlying23 rfl (sizeRf _ _ _ _ _) ?_)
        refine (firet_any S last M false false false _).mono ?_
        rintro e X4 ⟨rfl, hb⟩
        rw [fire_bye z0 z1 hl0 z5 HM.out (.inl rfl) (.inr rfl) (by omega)]
        replace ST := Lib.hid (ST.out.call hb)
        clear hb
        go_upto_region 29 with (fail)
        replace ST := Lib.hid ((show Mine w (X4.alloc (.cells #[.int .i64 S, .bool false, .int .i64 last, .bool false, .bool true] 23)) ((X4.heap.size, 23, [.int .i64 S, .bool false, .int .i64 last, .bool false, .bool true]) :: [(bQ, 23, [.int .i64 S, .bool false, .int .i64 last, .bool false, .bool false]), (bP, 23, [.int .i64 S, .bool true, .int .i64 last, .bool false, .bool false])]) _ from ST.out.alloc 23 [.int .i64 S, .bool false, .int .i64 last, .bool false, .bool true]).rest)
        generalize X4.alloc (.cells #[.int .i64 S, .bool false, .int .i64 last, .bool false, .bool true] 23) = Y5 at *
        generalize X4.heap.size = b5 at *
        have k33_4 := (show Row _ b5 23 [.int .i64 S, .bool false, .int .i64 last, .bool false, .bool true] from ST.out.fact (i := 0) rfl).cell 4
        simp only [List.getElem?_cons_succ, List.getElem?_cons_zero] at k33_4
        have k5_2 := (show Row _ b1 25 [.int .i64 0, .int .i64 0, .int .i64 S, .bool true] from ST.out.fact (i := 2) rfl).cell 2
        simp only [List.getElem?_cons_succ, List.getElem?_cons_zero] at k5_2
        have m5 : M ≤ last + 1000 * S := by omega
        have m6 : decide (M ≤ last + 1000 * S) = true := decide_eq_true m5
        have m7 : last < M := by omega
        have m8 : decide (last < M) = true := decide_eq_true m7
        go_wp2_with (go_at_call 18; refine (works19_any _ (HS.out.below ST.out.bw) (HK.out.below ST.out.bw)).mono ?_; rintro e W9 ⟨rfl, hb9⟩; replace ST := Lib.hid (ST.out.call hb9); clear hb9)
        go_ret
        exact ⟨rfl, ST.out.bw⟩
    · have hd : decide (k < cn) = false := by simp [hlt]
      have hd2 : decide ((k : Int) < (cn : Int)) = false := by simp; omega
      obtain ⟨M, hM⟩ : ∃ M, limR S last = M := ⟨_, rfl⟩
      obtain ⟨m1, m2⟩ := lim_in z0 hM
      have HM := Lib.hid hM; clear hM
      go_wp2_with (with_reducible refine wpList_loadR rfl 23 (.tmp 8) rfl (show Row _ bQ 23 [.int .i64 S, .bool false, .int .i64 last, .bool false, .bool false] from ST.out.row (i := 0) rfl) rfl Tryz.underlying23 rfl (sizeRf _ _ _ _ _) ?_)
      refine (nextt_any S last false false false _).mono ?_
      rintro e X1 ⟨rfl, hb⟩
      rw [next_in z0 z1 hl0 z5 (.inr rfl), nextR_lim (.inl rfl), HM.out]
      replace ST := Lib.hid (ST.out.call hb)
      clear hb
      go_wp2_with (with_reducible refine wpList_loadR rfl 23 (.tmp 8) rfl (show Row _ bQ 23 [.int .i64 S, .bool false, .int .i64 last, .bool false, .bool false] from ST.out.row (i := 0) rfl) rfl Tryz.underlying23 rfl (sizeRf _ _ _ _ _) ?_)
      refine (firet_any S last (M - 1) false false false _).mono ?_
      rintro e X2 ⟨rfl, hb⟩
      rw [fire_wait z0 z1 hl0 z5 HM.out (by omega) (by omega) (by omega)]
      replace ST := Lib.hid (ST.out.call hb)
      clear hb
      go_upto_region 28 with (fail)
      replace ST := Lib.hid ((show Mine w (X2.alloc (.cells #[.int .i64 S, .bool false, .int .i64 last, .bool false, .bool false] 23)) ((X2.heap.size, 23, [.int .i64 S, .bool false, .int .i64 last, .bool false, .bool false]) :: [(bQ, 23, [.int .i64 S, .bool false, .int .i64 last, .bool false, .bool false]), (bP, 23, [.int .i64 S, .bool true, .int .i64 last, .bool false, .bool false])]) _ from ST.out.alloc 23 [.int .i64 S, .bool false, .int .i64 last, .bool false, .bool false]).rest)
      generalize X2.alloc (.cells #[.int .i64 S, .bool false, .int .i64 last, .bool false, .bool false] 23) = Y3 at *
      generalize X2.heap.size = b3 at *
      go_wp2_with (with_reducible refine wpList_loadR rfl 23 (.tmp 31) rfl (show Row _ b3 23 [.int .i64 S, .bool false, .int .i64 last, .bool false, .bool false] from ST.out.fact (i := 0) rfl) rfl Tryz.underlying23 rfl (sizeRf _ _ _ _ _) ?_)
      refine (firet_any S last M false false false _).mono ?_
      rintro e X4 ⟨rfl, hb⟩
      rw [fire_bye z0 z1 hl0 z5 HM.out (.inl rfl) (.inr rfl) (by omega)]
      replace ST := Lib.hid (ST.out.call hb)
      clear hb
      go_upto_region 29 with (fail)
      replace ST := Lib.hid ((show Mine w (X4.alloc (.cells #[.int .i64 S, .bool false, .int .i64 last, .bool false, .bool true] 23)) ((X4.heap.size, 23, [.int .i64 S, .bool false, .int .i64 last, .bool false, .bool true]) :: [(bQ, 23, [.int .i64 S, .bool false, .int .i64 last, .bool false, .bool false]), (bP, 23, [.int .i64 S, .bool true, .int .i64 last, .bool false, .bool false])]) _ from ST.out.alloc 23 [.int .i64 S, .bool false, .int .i64 last, .bool false, .bool true]).rest)
      generalize X4.alloc (.cells #[.int .i64 S, .bool false, .int .i64 last, .bool false, .bool true] 23) = Y5 at *
      generalize X4.heap.size = b5 at *
      have k33_4 := (show Row _ b5 23 [.int .i64 S, .bool false, .int .i64 last, .bool false, .bool true] from ST.out.fact (i := 0) rfl).cell 4
      simp only [List.getElem?_cons_succ, List.getElem?_cons_zero] at k33_4
      have k5_2 := (show Row _ b1 25 [.int .i64 0, .int .i64 0, .int .i64 S, .bool true] from ST.out.fact (i := 2) rfl).cell 2
      simp only [List.getElem?_cons_succ, List.getElem?_cons_zero] at k5_2
      have m5 : M ≤ last + 1000 * S := by omega
      have m6 : decide (M ≤ last + 1000 * S) = true := decide_eq_true m5
      have m7 : last < M := by omega
      have m8 : decide (last < M) = true := decide_eq_true m7
      go_wp2_with (go_at_call 18; refine (works19_any _ (HS.out.below ST.out.bw) (HK.out.below ST.out.bw)).mono ?_; rintro e W9 ⟨rfl, hb9⟩; replace ST := Lib.hid (ST.out.call hb9); clear hb9)
      go_ret
      exact ⟨rfl, ST.out.bw⟩
theorem lives_any (sec : Int) (C : Option Addr) (cn cc : Nat) (xs : List Int) (w : World) (c0 : 0 ≤ sec) (c1 : sec ≤ 65535) (hC : DsW w C xs) (hcn : xs.length = cn) (hx : ∀ x ∈ xs, 0 ≤ x ∧ x ≤ 65535) (hS : SC w) (hK : KD w) :
    Calls Tryz.prog 5 #[.int .u16 sec, .slice C cn cc] w fun e w' => e = .returned (.bool true) ∧ Below w.heap.size w w' := by
  have h0 : 0 ≤ sec % 3600 := Int.emod_nonneg _ (by decide)
  have h1 : sec % 3600 < 3600 := Int.emod_lt_of_pos _ (by decide)
  exact lives_at (90 + sec % 3600) sec C cn cc xs w rfl c0 c1 (by omega) (by omega) (by omega) hC hcn hx hS hK
end Go.Proofs.YtcnkjgjimcddiaaGreatDoor
