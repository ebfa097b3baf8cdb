/- The sort beyond twenty: a row of parameters, whichever; swapRange. And what stands behind it. -/
import Derived.Test.YthfonniieaiocaaGreatDoorUh
import Derived.Test.YthfonniieaiocaaGreatDoorFe
import Derived.Deep.CutBlock
import Derived.Deep.DeepCutAuto
import Derived.Test.YthfonniieaiocaaGreatDoorWt
import Derived.Test.YthfonniieaiocaaGreatDoorTi
import Derived.Test.YthfonniieaiocaaGreatDoorTf
set_option linter.unusedVariables false
set_option linter.unusedSimpArgs false
set_option maxRecDepth 100000
set_option maxHeartbeats 8000000
namespace Go.Proofs.YthfonniieaiocaaGreatDoor
open Go.RowKit

structure KR (w0 : World) (g n : Nat) (W : World) : Prop where
  bw : Below w0.heap.size w0 W
  ge : w0.heap.size ≤ g
  row : ∃ us : List Value, Row W g 56 us ∧ n * 3 ≤ us.length ∧ ∀ i, i < n → ∃ e : PB, us[i * 3]? = some (.string e.1) ∧ us[i * 3 + 1]? = some (.string e.2.1) ∧ us[i * 3 + 2]? = some (.bool e.2.2)
theorem KR.call {w0 W W' : World} {g n : Nat} (h : KR w0 g n W) (hb : Below W.heap.size W W') : KR w0 g n W' := by
  obtain ⟨us, hr, hl, he⟩ := h.row
  exact ⟨bthen h.bw hb, h.ge, us, hr.below hb, hl, he⟩
theorem KR.elem {w0 W : World} {g n : Nat} (h : KR w0 g n W) (i : Nat) (hi : i < n) : ∃ e : PB, W.rangeAt g (i * 3) (encP e) := by
  obtain ⟨us, hr, _, he⟩ := h.row
  obtain ⟨e, e0, e1, e2⟩ := he i hi
  refine ⟨e, fun j v hj => ?_⟩
  match j, hj with
  | 0, hj => cases hj; exact (hr.cell _).trans e0
  | 1, hj => cases hj; exact (hr.cell _).trans e1
  | 2, hj => cases hj; exact (hr.cell _).trans e2
  | j + 3, hj => exact absurd hj (by simp [encP])
theorem KR.there {w0 W : World} {g n : Nat} (h : KR w0 g n W) (i : Nat) (hi : i < n) : W.there g (i * 3) 3 := by
  obtain ⟨us, hr, hl, _⟩ := h.row
  intro j hj
  refine ⟨?_, hr.frozen _⟩
  rw [hr.cell, List.getElem?_eq_getElem (by omega)]; rfl
theorem KR.put {w0 W : World} {g n : Nat} (h : KR w0 g n W) (i : Nat) (hi : i < n) (e : PB) : KR w0 g n (W.setCells g (i * 3) (encP e)) := by
  obtain ⟨us, hr, hl, he⟩ := h.row
  have h1 := ((hr.set (i * 3) (.string e.1)).set (i * 3 + 1) (.string e.2.1)).set (i * 3 + 2) (.bool e.2.2)
  refine ⟨((h.bw.setCell h.ge _).setCell h.ge _).setCell h.ge _, h.ge, _, h1, by simpa using hl, fun j hj => ?_⟩
  by_cases hji : j = i
  · subst hji
    refine ⟨e, ?_, ?_, ?_⟩
    · rw [List.getElem?_set_ne (by omega), List.getElem?_set_ne (by omega), List.getElem?_set_self (by omega)]
    · rw [List.getElem?_set_ne (by omega), List.getElem?_set_self (by simp; omega)]
    · rw [List.getElem?_set_self (by simp; omega)]
  · obtain ⟨e', e0, e1, e2⟩ := he j hj
    refine ⟨e', ?_, ?_, ?_⟩
    · rw [List.getElem?_set_ne (by omega), List.getElem?_set_ne (by omega), List.getElem?_set_ne (by omega)]; exact e0
    · rw [List.getElem?_set_ne (by omega), List.getElem?_set_ne (by omega), List.getElem?_set_ne (by omega)]; exact e1
    · rw [List.getElem?_set_ne (by omega), List.getElem?_set_ne (by omega), List.getElem?_set_ne (by omega)]; exact e2
section
variable {P : Program} {ops : Array Oper} {Q : Exit → Act → World → Prop}
theorem region_loose (hm : P.follows .mixedOrders = true) (hA : ahead ops = true) (A : Nat → Value → Prop) (G : World → Prop) {id : Nat} {a : Act} {w : World} (hS : ssa ops a.tmps.size = true) (h0 : G w.drew)
    (hstep : ∀ (i : Nat) (o : Oper), ops[i]? = some o → ∀ a' W, G W → Fr ops a a' → DepsOk ops (fun j _ v => A j v) o a' W → wpOp P ops Q i (fun a2 W2 => ∃ v, a2 = a'.put o.dst v ∧ (∀ d, o.dst = some d → A i v) ∧ G W2) a' W)
    (hend : ∀ vs W, vs.length = ops.size → (∀ (i : Nat) (o : Oper) (d : Tmp) (v : Value), ops[i]? = some o → o.dst = some d → vs[i]? = some v → A i v) → G W → Q .normal (putL a ops.toList vs) W) :
    (Code.region id ops true).wp P Q a w := by
  refine region_dag hm hA (fun j _ v => A j v) (fun _ _ W => G W) hS h0 (fun L a' W i o hI ho hL hdep => ?_) (fun L a' W hfr hall hL hB => ?_)
  · refine wpOp_mono (fun a2 W2 h => ?_) (hstep i o ho a' W hI.2.2 hI.1 (fun e he hb oj d h1 h2 => hI.2.1 e.on oj d h1 h2 (hdep e he hb)))
    obtain ⟨v, rfl, hv, hg⟩ := h
    exact ⟨v, rfl, fun _ _ h => h, hv, hg⟩
  · rw [putL_vals hS hfr]
    refine hend _ W (by simp [valsOf]) (fun i o d v ho hd hv => ?_) hB
    simp only [valsOf, List.getElem?_map, Array.getElem?_toList, ho, Option.map_some, hd, Option.some.injEq] at hv
    rw [← hv]
    exact hall i o d ho hd
end
theorem add_i (x y : Int) (h1 : -9223372036854775808 ≤ x + y) (h2 : x + y < 9223372036854775808) (w : World) : (binOp .add 3 (.int .i64 x) (.int .i64 y)).run Tryz.prog w = .ok (.int .i64 (x + y)) w := by
  have hw : IntKind.i64.wrap (x + y) = x + y := by rw [IntKind.wrap_i64]; omega
  simp [go_sem, hw]
theorem sub_i (x y : Int) (h1 : -9223372036854775808 ≤ x - y) (h2 : x - y < 9223372036854775808) (w : World) : (binOp .sub 3 (.int .i64 x) (.int .i64 y)).run Tryz.prog w = .ok (.int .i64 (x - y)) w := by
  have hw : IntKind.i64.wrap (x - y) = x - y := by rw [IntKind.wrap_i64]; omega
  simp [go_sem, hw]
theorem wp_ia1 {o : Oper} {a : Act} {w : World} {next : Act → World → Prop} {Q : Exit → Act → World → Prop} {g n cap : Nat} {z : Int} (x y : Operand) (ho : o.op = .indexAddr 30 x y) (hx : a.eval x = .slice (some ⟨g, 0, none⟩) n cap) (hy : a.eval y = .int .i64 z) (N : Nat) (hz : z = N) (hN : N < n)
    (hn : next (a.put o.dst (.pointer (some ⟨g, N * 3, none⟩))) w) : o.wp Tryz.prog a w next Q := by
  subst hz
  refine wp_value (.pointer (some ⟨g, N * 3, none⟩)) ?_ hn
  have hr : (Instr.indexAt 30 (.slice (some ⟨g, 0, none⟩) n cap) (.int .i64 (N : Nat))).run Tryz.prog w = .ok (.pointer (some ⟨g, N * 3, none⟩)) w := by
    rw [run_indexAt_slice w 30 ⟨g, 0, none⟩ n cap .i64 (N : Nat) (by kernel_rfl), if_pos ⟨by omega, by omega⟩, show Tryz.prog.elem 30 = 56 by kernel_rfl, Tryz.sizeOf56 w]
    show Result.ok (Value.pointer (some ((⟨g, 0, none⟩ : Addr).add ((N : Int).toNat * 3)))) w = _
    rw [Addr.add_mid, Int.toNat_natCast, Nat.zero_add]
  unfold execOp
  simp only [ho, hx, hy, Sem.run_bind, hr, Result.andThen_ok]
  rfl
theorem swapr_any (w0 wr : World) (g n cap : Nat) (S0 : KR w0 g n wr) (a b m : Nat) (ha : a + m ≤ n) (hb : b + m ≤ n) (hn : n ≤ 16777216) :
    Calls Tryz.prog 216 #[.slice (some ⟨g, 0, none⟩) n cap, .int .i64 a, .int .i64 b, .int .i64 m, .func (.func 137) #[] #[]] wr fun e w' => e = .returned (.tuple #[]) ∧ KR w0 g n w' := by
  have SS := kd S0
  clear S0
  go_enter Tryz.func216, Tryz.ntmps216
  go_wp2_with fail
  go_loopw [10] (fun v wx => ∃ i : Nat, i ≤ m ∧ v = .int .i64 i ∧ Hid (KR w0 g n wx)) (fun v _ => m - (intOf v).toNat)
  case atStart => exact ⟨0, Nat.zero_le _, rfl, SS⟩
  case round =>
    clear SS
    obtain ⟨i, hi, rfl, SS⟩ := hrel
    by_cases hlt : i < m
    · have hd2 : decide ((i : Int) < (m : Int)) = true := by simp; omega
      have hd : decide (i < m) = true := by simp [hlt]
      go_upto_region 3 with (fail)
      refine region_loose (by kernel_rfl) (by kernel_rfl) (fun j v => (([fun v => v = (.slice (some ⟨g, 0, none⟩) n cap), fun v => v = (.int .i64 ((a : Int))), fun v => v = (.int .i64 ((i : Int))), fun v => v = (.int .i64 ((a : Int) + (i : Int))), fun v => v = (.slice (some ⟨g, 0, none⟩) n cap), fun v => v = (.int .i64 ((b : Int))), fun v => v = (.int .i64 ((i : Int))), fun v => v = (.int .i64 ((b : Int) + (i : Int))), fun v => v = (.slice (some ⟨g, 0, none⟩) n cap), fun v => v = (.int .i64 ((b : Int))), fun v => v = (.int .i64 ((i : Int))), fun v => v = (.int .i64 ((b : Int) + (i : Int))), fun v => v = (.pointer (some ⟨g, (b + i) * 3, none⟩)), fun v => ∃ e : PB, v = .agg (encP e).toArray, fun v => v = (.slice (some ⟨g, 0, none⟩) n cap), fun v => v = (.int .i64 ((a : Int))), fun v => v = (.int .i64 ((i : Int))), fun v => v = (.int .i64 ((a : Int) + (i : Int))), fun v => v = (.pointer (some ⟨g, (a + i) * 3, none⟩)), fun v => ∃ e : PB, v = .agg (encP e).toArray, fun v => v = (.pointer (some ⟨g, (a + i) * 3, none⟩)), fun _ => True, fun v => v = (.pointer (some ⟨g, (b + i) * 3, none⟩)), fun _ => True] : List (Value → Prop)).getD j (fun _ => True)) v) (fun W => KR w0 g n W) (by kernel_rfl) (SS.out.call (Below.refl _ _).drew) ?hstep ?hend
      case hstep =>
        intro j o ho a' W hK hF hD
        match j, ho with
        | 0, ho =>
          obtain rfl := Option.some.inj ho
          exact rel_free ho rfl (wp_mv1 (.tmp 0) (.inl rfl) ⟨_, rfl, fun _ _ => (show a'.eval (.tmp 0) = .slice (some ⟨g, 0, none⟩) n cap from ((free_eval hF (by kernel_rfl)).trans rfl)), hK⟩)
        | 1, ho =>
          obtain rfl := Option.some.inj ho
          exact rel_free ho rfl (wp_mv1 (.tmp 1) (.inl rfl) ⟨_, rfl, fun _ _ => (show a'.eval (.tmp 1) = .int .i64 ((a : Int)) from ((free_eval hF (by kernel_rfl)).trans rfl)), hK⟩)
        | 2, ho =>
          obtain rfl := Option.some.inj ho
          exact rel_free ho rfl (wp_mv1 (.tmp 10) (.inl rfl) ⟨_, rfl, fun _ _ => (show a'.eval (.tmp 10) = .int .i64 ((i : Int)) from ((free_eval hF (by kernel_rfl)).trans rfl)), hK⟩)
        | 3, ho =>
          obtain rfl := Option.some.inj ho
          have hx : a'.eval (.tmp 17) = .int .i64 ((a : Int)) := (dep_eval hD 1 (by kernel_rfl) rfl rfl)
          have hy : a'.eval (.tmp 18) = .int .i64 ((i : Int)) := (dep_eval hD 2 (by kernel_rfl) rfl rfl)
          exact rel_free ho rfl (wp_bin1 _ _ _ _ _ rfl _ _ (.int .i64 ((a : Int) + (i : Int))) hx hy (fun w => by kernel_rfl) (fun w => add_i ((a : Int)) ((i : Int)) (by omega) (by omega) w) ⟨_, rfl, fun _ _ => rfl, hK⟩)
        | 4, ho =>
          obtain rfl := Option.some.inj ho
          exact rel_free ho rfl (wp_mv1 (.tmp 0) (.inl rfl) ⟨_, rfl, fun _ _ => (show a'.eval (.tmp 0) = .slice (some ⟨g, 0, none⟩) n cap from ((free_eval hF (by kernel_rfl)).trans rfl)), hK⟩)
        | 5, ho =>
          obtain rfl := Option.some.inj ho
          exact rel_free ho rfl (wp_mv1 (.tmp 2) (.inl rfl) ⟨_, rfl, fun _ _ => (show a'.eval (.tmp 2) = .int .i64 ((b : Int)) from ((free_eval hF (by kernel_rfl)).trans rfl)), hK⟩)
        | 6, ho =>
          obtain rfl := Option.some.inj ho
          exact rel_free ho rfl (wp_mv1 (.tmp 10) (.inl rfl) ⟨_, rfl, fun _ _ => (show a'.eval (.tmp 10) = .int .i64 ((i : Int)) from ((free_eval hF (by kernel_rfl)).trans rfl)), hK⟩)
        | 7, ho =>
          obtain rfl := Option.some.inj ho
          have hx : a'.eval (.tmp 21) = .int .i64 ((b : Int)) := (dep_eval hD 5 (by kernel_rfl) rfl rfl)
          have hy : a'.eval (.tmp 22) = .int .i64 ((i : Int)) := (dep_eval hD 6 (by kernel_rfl) rfl rfl)
          exact rel_free ho rfl (wp_bin1 _ _ _ _ _ rfl _ _ (.int .i64 ((b : Int) + (i : Int))) hx hy (fun w => by kernel_rfl) (fun w => add_i ((b : Int)) ((i : Int)) (by omega) (by omega) w) ⟨_, rfl, fun _ _ => rfl, hK⟩)
        | 8, ho =>
          obtain rfl := Option.some.inj ho
          exact rel_free ho rfl (wp_mv1 (.tmp 0) (.inl rfl) ⟨_, rfl, fun _ _ => (show a'.eval (.tmp 0) = .slice (some ⟨g, 0, none⟩) n cap from ((free_eval hF (by kernel_rfl)).trans rfl)), hK⟩)
        | 9, ho =>
          obtain rfl := Option.some.inj ho
          exact rel_free ho rfl (wp_mv1 (.tmp 2) (.inl rfl) ⟨_, rfl, fun _ _ => (show a'.eval (.tmp 2) = .int .i64 ((b : Int)) from ((free_eval hF (by kernel_rfl)).trans rfl)), hK⟩)
        | 10, ho =>
          obtain rfl := Option.some.inj ho
          exact rel_free ho rfl (wp_mv1 (.tmp 10) (.inl rfl) ⟨_, rfl, fun _ _ => (show a'.eval (.tmp 10) = .int .i64 ((i : Int)) from ((free_eval hF (by kernel_rfl)).trans rfl)), hK⟩)
        | 11, ho =>
          obtain rfl := Option.some.inj ho
          have hx : a'.eval (.tmp 25) = .int .i64 ((b : Int)) := (dep_eval hD 9 (by kernel_rfl) rfl rfl)
          have hy : a'.eval (.tmp 26) = .int .i64 ((i : Int)) := (dep_eval hD 10 (by kernel_rfl) rfl rfl)
          exact rel_free ho rfl (wp_bin1 _ _ _ _ _ rfl _ _ (.int .i64 ((b : Int) + (i : Int))) hx hy (fun w => by kernel_rfl) (fun w => add_i ((b : Int)) ((i : Int)) (by omega) (by omega) w) ⟨_, rfl, fun _ _ => rfl, hK⟩)
        | 12, ho =>
          obtain rfl := Option.some.inj ho
          have hx : a'.eval (.tmp 24) = .slice (some ⟨g, 0, none⟩) n cap := (dep_eval hD 8 (by kernel_rfl) rfl rfl)
          have hy : a'.eval (.tmp 27) = .int .i64 ((b : Int) + (i : Int)) := (dep_eval hD 11 (by kernel_rfl) rfl rfl)
          exact rel_free ho rfl (wp_ia1 (.tmp 24) (.tmp 27) rfl hx hy (b + i) (by omega) (by omega) ⟨_, rfl, fun _ _ => rfl, hK⟩)
        | 13, ho =>
          obtain rfl := Option.some.inj ho
          obtain ⟨e, he⟩ := hK.elem (b + i) (by omega)
          exact rel_free ho rfl (wp_load1 56 (.tmp 28) rfl g ((b + i) * 3) (encP e) _ (dep_eval hD 12 (by kernel_rfl) rfl rfl) he Tryz.underlying56 rfl (sizePm _ _ _) ⟨_, rfl, fun _ _ => ⟨e, rfl⟩, hK⟩)
        | 14, ho =>
          obtain rfl := Option.some.inj ho
          exact rel_free ho rfl (wp_mv1 (.tmp 0) (.inl rfl) ⟨_, rfl, fun _ _ => (show a'.eval (.tmp 0) = .slice (some ⟨g, 0, none⟩) n cap from ((free_eval hF (by kernel_rfl)).trans rfl)), hK⟩)
        | 15, ho =>
          obtain rfl := Option.some.inj ho
          exact rel_free ho rfl (wp_mv1 (.tmp 1) (.inl rfl) ⟨_, rfl, fun _ _ => (show a'.eval (.tmp 1) = .int .i64 ((a : Int)) from ((free_eval hF (by kernel_rfl)).trans rfl)), hK⟩)
        | 16, ho =>
          obtain rfl := Option.some.inj ho
          exact rel_free ho rfl (wp_mv1 (.tmp 10) (.inl rfl) ⟨_, rfl, fun _ _ => (show a'.eval (.tmp 10) = .int .i64 ((i : Int)) from ((free_eval hF (by kernel_rfl)).trans rfl)), hK⟩)
        | 17, ho =>
          obtain rfl := Option.some.inj ho
          have hx : a'.eval (.tmp 31) = .int .i64 ((a : Int)) := (dep_eval hD 15 (by kernel_rfl) rfl rfl)
          have hy : a'.eval (.tmp 32) = .int .i64 ((i : Int)) := (dep_eval hD 16 (by kernel_rfl) rfl rfl)
          exact rel_free ho rfl (wp_bin1 _ _ _ _ _ rfl _ _ (.int .i64 ((a : Int) + (i : Int))) hx hy (fun w => by kernel_rfl) (fun w => add_i ((a : Int)) ((i : Int)) (by omega) (by omega) w) ⟨_, rfl, fun _ _ => rfl, hK⟩)
        | 18, ho =>
          obtain rfl := Option.some.inj ho
          have hx : a'.eval (.tmp 30) = .slice (some ⟨g, 0, none⟩) n cap := (dep_eval hD 14 (by kernel_rfl) rfl rfl)
          have hy : a'.eval (.tmp 33) = .int .i64 ((a : Int) + (i : Int)) := (dep_eval hD 17 (by kernel_rfl) rfl rfl)
          exact rel_free ho rfl (wp_ia1 (.tmp 30) (.tmp 33) rfl hx hy (a + i) (by omega) (by omega) ⟨_, rfl, fun _ _ => rfl, hK⟩)
        | 19, ho =>
          obtain rfl := Option.some.inj ho
          obtain ⟨e, he⟩ := hK.elem (a + i) (by omega)
          exact rel_free ho rfl (wp_load1 56 (.tmp 34) rfl g ((a + i) * 3) (encP e) _ (dep_eval hD 18 (by kernel_rfl) rfl rfl) he Tryz.underlying56 rfl (sizePm _ _ _) ⟨_, rfl, fun _ _ => ⟨e, rfl⟩, hK⟩)
        | 20, ho =>
          obtain rfl := Option.some.inj ho
          have hx : a'.eval (.tmp 16) = .slice (some ⟨g, 0, none⟩) n cap := (dep_eval hD 0 (by kernel_rfl) rfl rfl)
          have hy : a'.eval (.tmp 19) = .int .i64 ((a : Int) + (i : Int)) := (dep_eval hD 3 (by kernel_rfl) rfl rfl)
          exact rel_free ho rfl (wp_ia1 (.tmp 16) (.tmp 19) rfl hx hy (a + i) (by omega) (by omega) ⟨_, rfl, fun _ _ => rfl, hK⟩)
        | 21, ho =>
          obtain rfl := Option.some.inj ho
          obtain ⟨e, hy⟩ := (show ∃ e : PB, a'.eval (.tmp 29) = .agg (encP e).toArray from (dep_eval hD 13 (by kernel_rfl) rfl rfl))
          exact rel_free ho rfl (wp_store_mid 56 (.tmp 36) (.tmp 29) rfl g ((a + i) * 3) (encP e).toArray (dep_eval hD 20 (by kernel_rfl) rfl rfl) hy (hK.there (a + i) (by omega)) (sizePm _ _ _) (all_oneCell_toArray (pm_one _ _ _)) ⟨undef, rfl, (fun d h => by cases h), hK.put (a + i) (by omega) e⟩)
        | 22, ho =>
          obtain rfl := Option.some.inj ho
          have hx : a'.eval (.tmp 20) = .slice (some ⟨g, 0, none⟩) n cap := (dep_eval hD 4 (by kernel_rfl) rfl rfl)
          have hy : a'.eval (.tmp 23) = .int .i64 ((b : Int) + (i : Int)) := (dep_eval hD 7 (by kernel_rfl) rfl rfl)
          exact rel_free ho rfl (wp_ia1 (.tmp 20) (.tmp 23) rfl hx hy (b + i) (by omega) (by omega) ⟨_, rfl, fun _ _ => rfl, hK⟩)
        | 23, ho =>
          obtain rfl := Option.some.inj ho
          obtain ⟨e, hy⟩ := (show ∃ e : PB, a'.eval (.tmp 35) = .agg (encP e).toArray from (dep_eval hD 19 (by kernel_rfl) rfl rfl))
          exact rel_free ho rfl (wp_store_mid 56 (.tmp 37) (.tmp 35) rfl g ((b + i) * 3) (encP e).toArray (dep_eval hD 22 (by kernel_rfl) rfl rfl) hy (hK.there (b + i) (by omega)) (sizePm _ _ _) (all_oneCell_toArray (pm_one _ _ _)) ⟨undef, rfl, (fun d h => by cases h), hK.put (b + i) (by omega) e⟩)
        | j + 24, ho => exact absurd ho (by simp)
      case hend =>
        intro vs W hlen hv hK
        obtain ⟨v0, v1, v2, v3, v4, v5, v6, v7, v8, v9, v10, v11, v12, v13, v14, v15, v16, v17, v18, v19, v20, v21, v22, v23, rfl⟩ : ∃ v0 v1 v2 v3 v4 v5 v6 v7 v8 v9 v10 v11 v12 v13 v14 v15 v16 v17 v18 v19 v20 v21 v22 v23, vs = [v0, v1, v2, v3, v4, v5, v6, v7, v8, v9, v10, v11, v12, v13, v14, v15, v16, v17, v18, v19, v20, v21, v22, v23] := by
          match vs, hlen with
          | [v0, v1, v2, v3, v4, v5, v6, v7, v8, v9, v10, v11, v12, v13, v14, v15, v16, v17, v18, v19, v20, v21, v22, v23], _ => exact ⟨_, _, _, _, _, _, _, _, _, _, _, _, _, _, _, _, _, _, _, _, _, _, _, _, rfl⟩
        have SK := kd hK
        clear hv hlen hK SS
        simp only [putL, Act.put, List.setIfInBounds_toArray, List.set_cons_zero, List.set_cons_succ]
        go_wp2_with fail
        go_roundw
        case rel => exact ⟨i + 1, by omega, by go_num, SK⟩
        case measure => simp [intOf]; omega
    · obtain rfl : i = m := by omega
      have hd2 : decide ((i : Int) < (i : Int)) = false := by simp
      go_wp2_with fail
      go_end0
      exact ⟨rfl, SS.out⟩

theorem rot_any (w0 wr : World) (g n cap : Nat) (S0 : KR w0 g n wr) (a m b : Nat) (ha : a < m) (hb : m < b) (hbn : b ≤ n) (hn : n ≤ 16777216) :
    Calls Tryz.prog 209 #[.slice (some ⟨g, 0, none⟩) n cap, .int .i64 a, .int .i64 m, .int .i64 b, .func (.func 137) #[] #[]] wr fun e w' => e = .returned (.tuple #[]) ∧ KR w0 g n w' := by
  have SS := kd S0
  clear S0
  have SW := kd (fun wx (S : KR w0 g n wx) (x y k : Nat) (hx : x + k ≤ n) (hy : y + k ≤ n) (x' y' : Int) (ex : x' = x) (ey : y' = y) => (show Calls Tryz.prog 216 #[.slice (some ⟨g, 0, none⟩) n cap, .int .i64 x', .int .i64 y', .int .i64 (k : Nat), .func (.func 137) #[] #[]] wx fun e w' => e = .returned (.tuple #[]) ∧ KR w0 g n w' from by subst ex; subst ey; exact swapr_any w0 wx g n cap S x y k hx hy hn))
  have r1 : IntKind.i64.wrap ((m : Int) - (a : Int)) = (m : Int) - (a : Int) := by rw [IntKind.wrap_i64]; omega
  have r2 : IntKind.i64.wrap ((b : Int) - (m : Int)) = (b : Int) - (m : Int) := by rw [IntKind.wrap_i64]; omega
  go_enter Tryz.func209, Tryz.ntmps209
  go_wp2_with fail
  go_loopw [10, 11] (fun vi vj wx => ∃ i j : Nat, 1 ≤ i ∧ 1 ≤ j ∧ i ≤ m ∧ m + j ≤ n ∧ vi = .int .i64 i ∧ vj = .int .i64 j ∧ Hid (KR w0 g n wx)) (fun vi vj _ => (intOf vi).toNat + (intOf vj).toNat)
  case atStart => exact ⟨m - a, b - m, by omega, by omega, by omega, by omega, congrArg (Value.int .i64) (by omega), congrArg (Value.int .i64) (by omega), SS⟩
  case round =>
    clear SS r1 r2
    obtain ⟨i, j, hi, hj, him, hjn, rfl, rfl, SS⟩ := hrel
    have r3 : IntKind.i64.wrap ((m : Int) - (i : Int)) = (m : Int) - (i : Int) := by rw [IntKind.wrap_i64]; omega
    by_cases he : i = j
    · subst he
      have q1 : ((i : Int) == (i : Int)) = true := by simp
      go_wp2_with fail
      refine (SW.out _ SS.out (m - i) m i (by omega) (by omega) _ _ (by omega) (by omega)).mono ?_
      rintro _ w2 ⟨rfl, h2⟩
      have S2 := kd h2
      clear h2 SS
      go_wp2_with fail
      go_end0
      exact ⟨rfl, S2.out⟩
    · have q1 : ((i : Int) == (j : Int)) = false := by simp; omega
      have q0 : ¬ ((i : Int) = (j : Int)) := by omega
      by_cases hgt : j < i
      · have q2 : decide ((j : Int) < (i : Int)) = true := by simp; omega
        have q3 : (j : Int) < (i : Int) := by omega
        have r4 : IntKind.i64.wrap ((i : Int) - (j : Int)) = (i : Int) - (j : Int) := by rw [IntKind.wrap_i64]; omega
        go_wp2_with fail
        refine (SW.out _ SS.out (m - i) m j (by omega) (by omega) _ _ (by omega) (by omega)).mono ?_
        rintro _ w2 ⟨rfl, h2⟩
        have S2 := kd h2
        clear h2 SS
        go_wp2_with fail
        go_roundw
        case rel => exact ⟨i - j, j, by omega, by omega, by omega, by omega, congrArg (Value.int .i64) (by omega), rfl, S2⟩
        case measure => simp [intOf]; omega
      · have q2 : decide ((j : Int) < (i : Int)) = false := by simp; omega
        have q3 : ¬ (j : Int) < (i : Int) := by omega
        have r4 : IntKind.i64.wrap ((j : Int) - (i : Int)) = (j : Int) - (i : Int) := by rw [IntKind.wrap_i64]; omega
        have r5 : IntKind.i64.wrap ((m : Int) + (j : Int)) = (m : Int) + (j : Int) := by rw [IntKind.wrap_i64]; omega
        have r6 : IntKind.i64.wrap ((m : Int) + (j : Int) - (i : Int)) = (m : Int) + (j : Int) - (i : Int) := by rw [IntKind.wrap_i64]; omega
        go_wp2_with fail
        refine (SW.out _ SS.out (m - i) (m + j - i) i (by omega) (by omega) _ _ (by omega) (by omega)).mono ?_
        rintro _ w2 ⟨rfl, h2⟩
        have S2 := kd h2
        clear h2 SS
        go_wp2_with fail
        go_roundw
        case rel => exact ⟨i, j - i, by omega, by omega, by omega, by omega, rfl, congrArg (Value.int .i64) (by omega), S2⟩
        case measure => simp [intOf]; omega

theorem dlt {a b : Nat} (h : a < b) : decide ((a : Int) < (b : Int)) = true ∧ (a : Int) < (b : Int) := ⟨by simp; omega, by omega⟩
theorem dnl {a b : Nat} (h : ¬ a < b) : decide ((a : Int) < (b : Int)) = false ∧ ¬ (a : Int) < (b : Int) := ⟨by simp; omega, by omega⟩
theorem lss_i (x y : Int) (w : World) : (binOp .lss 3 (.int .i64 x) (.int .i64 y)).run Tryz.prog w = .ok (.bool (decide (x < y))) w := by
  simp [go_sem]
theorem wp_callv {P : Program} {o : Oper} {a : Act} {w : World} {next : Act → World → Prop} {Q : Exit → Act → World → Prop} (t : Nat) (args : Array Operand) (tys : Array TypeId) (ho : o.op = .call { callee := .value (.tmp t), args := args, argTypes := tys }) (f : FuncId) (hx : a.eval (.tmp t) = .func (.func f) #[] #[]) (vs : Array Value) (ha : args.map a.eval = vs) (he : ∀ args w, (callFunc f args).run P w = .ok (.enter f args) w) (hc : Calls P f vs w fun e w' => ∃ v, e = .returned v ∧ next (a.put o.dst v) w') : o.wp P a w next Q :=
  wp_enter f vs (by
    have hx2 : a.tmps[t]?.getD undef = .func (.func f) #[] #[] := by simpa [Act.eval] using hx
    unfold execOp
    simp [ho, resolve, invoke, Act.eval, hx2, go_sem, he]
    exact ha) hc
theorem cmp_b (e1 e2 : PB) (W : World) : Calls Tryz.prog 137 #[.agg (encP e1).toArray, .agg (encP e2).toArray] W fun e w' => (∃ z : Int, e = .returned (.int .i64 z)) ∧ Below W.heap.size W w' := by
  have h := sortcl_any (toPm e1) (toPm e2) W (toPm_by e1).1 (toPm_by e2).1
  rw [encP_to, encP_to] at h
  refine h.mono fun e w' h2 => ⟨⟨_, h2.1⟩, ?_⟩
  rw [h2.2]
  exact ((Below.refl _ _).alloc (Nat.le_refl _) _).alloc (by simp) _
theorem sym_any (w0 : World) (g n cap : Nat) (hn : n ≤ 16777216) : ∀ (N : Nat) (wr : World) (S0 : KR w0 g n wr) (a m b : Nat) (ha : a < m) (hb : m < b) (hbn : b ≤ n) (hN : b - a ≤ N),
    Calls Tryz.prog 198 #[.slice (some ⟨g, 0, none⟩) n cap, .int .i64 a, .int .i64 m, .int .i64 b, .func (.func 137) #[] #[]] wr fun e w' => e = .returned (.tuple #[]) ∧ KR w0 g n w' := by
  intro N
  induction N with
  | zero => intro _ _ _ _ _ ha hb _ hN; omega
  | succ N ih =>
  intro wr S0 a m b ha hb hbn hN
  have IH := kd ih
  clear ih
  have SS := kd S0
  clear S0
  have r1 : IntKind.i64.wrap ((m : Int) - (a : Int)) = (m : Int) - (a : Int) := by rw [IntKind.wrap_i64]; omega
  have r2 : IntKind.i64.wrap ((b : Int) - (m : Int)) = (b : Int) - (m : Int) := by rw [IntKind.wrap_i64]; omega
  go_enter Tryz.func198, Tryz.ntmps198
  by_cases h1 : m - a = 1
  · have q1 : ((m : Int) - (a : Int) == 1) = true := by simp; omega
    have q0 : (m : Int) - (a : Int) = 1 := by omega
    go_wp2_with fail
    go_loopw [10, 11] (fun vi vj wx => ∃ i j : Nat, m ≤ i ∧ i ≤ j ∧ j ≤ b ∧ vi = .int .i64 i ∧ vj = .int .i64 j ∧ Hid (KR w0 g n wx)) (fun vi vj _ => (intOf vj).toNat - (intOf vi).toNat)
    case atStart => exact ⟨m, b, by omega, by omega, by omega, rfl, rfl, SS⟩
    case round =>
      clear SS q1 q0 r1 r2
      obtain ⟨i, j, hi, hij, hjb, rfl, rfl, SS⟩ := hrel
      by_cases hlt : i < j
      · have q2 : decide ((i : Int) < (j : Int)) = true := by simp; omega
        have q3 : (i : Int) < (j : Int) := by omega
        have r3 : IntKind.i64.wrap ((i : Int) + (j : Int)) = (i : Int) + (j : Int) := by rw [IntKind.wrap_i64]; omega
        go_upto_region 5 with (fail)
        obtain ⟨h, hh, hh1, hh2⟩ : ∃ h : Nat, ((i : Int) + (j : Int)) / 2 = h ∧ i ≤ h ∧ h < j := ⟨(i + j) / 2, by omega, by omega, by omega⟩
        rw [hh]
        clear hh r3 q2 q3
        refine region_loose (by kernel_rfl) (by kernel_rfl) (fun j v => (([fun v => v = (.func (.func 137) #[] #[]), fun v => v = (.slice (some ⟨g, 0, none⟩) n cap), fun v => v = (.int .i64 ((h : Int))), fun v => v = (.pointer (some ⟨g, (h) * 3, none⟩)), fun v => ∃ e : PB, v = .agg (encP e).toArray, fun v => v = (.slice (some ⟨g, 0, none⟩) n cap), fun v => v = (.int .i64 ((a : Int))), fun v => v = (.pointer (some ⟨g, (a) * 3, none⟩)), fun v => ∃ e : PB, v = .agg (encP e).toArray, fun v => ∃ z : Int, v = .int .i64 z, fun v => ∃ b : Bool, v = .bool b] : List (Value → Prop)).getD j (fun _ => True)) v) (fun W => KR w0 g n W) (by kernel_rfl) (SS.out.call (Below.refl _ _).drew) ?hstep ?hend
        case hstep =>
          intro j o ho a' W hK hF hD
          match j, ho with
          | 0, ho =>
            obtain rfl := Option.some.inj ho
            exact rel_free ho rfl (wp_mv1 (.tmp 4) (.inl rfl) ⟨_, rfl, fun _ _ => (show a'.eval (.tmp 4) = .func (.func 137) #[] #[] from ((free_eval hF (by kernel_rfl)).trans rfl)), hK⟩)
          | 1, ho =>
            obtain rfl := Option.some.inj ho
            exact rel_free ho rfl (wp_mv1 (.tmp 0) (.inl rfl) ⟨_, rfl, fun _ _ => (show a'.eval (.tmp 0) = .slice (some ⟨g, 0, none⟩) n cap from ((free_eval hF (by kernel_rfl)).trans rfl)), hK⟩)
          | 2, ho =>
            obtain rfl := Option.some.inj ho
            exact rel_free ho rfl (wp_mv1 (.tmp 12) (.inl rfl) ⟨_, rfl, fun _ _ => (show a'.eval (.tmp 12) = .int .i64 ((h : Int)) from ((free_eval hF (by kernel_rfl)).trans rfl)), hK⟩)
          | 3, ho =>
            obtain rfl := Option.some.inj ho
            have hx : a'.eval (.tmp 41) = .slice (some ⟨g, 0, none⟩) n cap := (dep_eval hD 1 (by kernel_rfl) rfl rfl)
            have hy : a'.eval (.tmp 42) = .int .i64 ((h : Int)) := (dep_eval hD 2 (by kernel_rfl) rfl rfl)
            exact rel_free ho rfl (wp_ia1 (.tmp 41) (.tmp 42) rfl hx hy (h) (by omega) (by omega) ⟨_, rfl, fun _ _ => rfl, hK⟩)
          | 4, ho =>
            obtain rfl := Option.some.inj ho
            obtain ⟨e, he⟩ := hK.elem (h) (by omega)
            exact rel_free ho rfl (wp_load1 56 (.tmp 43) rfl g ((h) * 3) (encP e) _ (dep_eval hD 3 (by kernel_rfl) rfl rfl) he Tryz.underlying56 rfl (sizePm _ _ _) ⟨_, rfl, fun _ _ => ⟨e, rfl⟩, hK⟩)
          | 5, ho =>
            obtain rfl := Option.some.inj ho
            exact rel_free ho rfl (wp_mv1 (.tmp 0) (.inl rfl) ⟨_, rfl, fun _ _ => (show a'.eval (.tmp 0) = .slice (some ⟨g, 0, none⟩) n cap from ((free_eval hF (by kernel_rfl)).trans rfl)), hK⟩)
          | 6, ho =>
            obtain rfl := Option.some.inj ho
            exact rel_free ho rfl (wp_mv1 (.tmp 1) (.inl rfl) ⟨_, rfl, fun _ _ => (show a'.eval (.tmp 1) = .int .i64 ((a : Int)) from ((free_eval hF (by kernel_rfl)).trans rfl)), hK⟩)
          | 7, ho =>
            obtain rfl := Option.some.inj ho
            have hx : a'.eval (.tmp 45) = .slice (some ⟨g, 0, none⟩) n cap := (dep_eval hD 5 (by kernel_rfl) rfl rfl)
            have hy : a'.eval (.tmp 46) = .int .i64 ((a : Int)) := (dep_eval hD 6 (by kernel_rfl) rfl rfl)
            exact rel_free ho rfl (wp_ia1 (.tmp 45) (.tmp 46) rfl hx hy (a) (by omega) (by omega) ⟨_, rfl, fun _ _ => rfl, hK⟩)
          | 8, ho =>
            obtain rfl := Option.some.inj ho
            obtain ⟨e, he⟩ := hK.elem (a) (by omega)
            exact rel_free ho rfl (wp_load1 56 (.tmp 47) rfl g ((a) * 3) (encP e) _ (dep_eval hD 7 (by kernel_rfl) rfl rfl) he Tryz.underlying56 rfl (sizePm _ _ _) ⟨_, rfl, fun _ _ => ⟨e, rfl⟩, hK⟩)
          | 9, ho =>
            obtain rfl := Option.some.inj ho
            obtain ⟨e1, h1⟩ := (show ∃ e : PB, a'.eval (.tmp 44) = .agg (encP e).toArray from (dep_eval hD 4 (by kernel_rfl) rfl rfl))
            obtain ⟨e2, h2⟩ := (show ∃ e : PB, a'.eval (.tmp 48) = .agg (encP e).toArray from (dep_eval hD 8 (by kernel_rfl) rfl rfl))
            have hc : a'.eval (.tmp 40) = .func (.func 137) #[] #[] := (dep_eval hD 0 (by kernel_rfl) rfl rfl)
            exact rel_free ho rfl (wp_callv 40 _ _ rfl 137 hc #[.agg (encP e1).toArray, .agg (encP e2).toArray] (by simp only [List.map_toArray, List.map_cons, List.map_nil, h1, h2]) (enters_of Tryz.func137 (by kernel_rfl) rfl) ((cmp_b e1 e2 W).mono fun e W2 ⟨⟨z, he⟩, hb⟩ => ⟨_, he, _, rfl, (fun _ _ => ⟨z, rfl⟩), hK.call hb⟩))
          | 10, ho =>
            obtain rfl := Option.some.inj ho
            obtain ⟨z, hz⟩ := (show ∃ z : Int, a'.eval (.tmp 49) = .int .i64 z from (dep_eval hD 9 (by kernel_rfl) rfl rfl))
            exact rel_free ho rfl (wp_bin1 _ _ _ _ _ rfl _ _ (.bool (decide (z < 0))) hz rfl (fun w => by kernel_rfl) (fun w => lss_i z 0 w) ⟨_, rfl, fun _ _ => ⟨_, rfl⟩, hK⟩)
          | j + 11, ho => exact absurd ho (by simp)
        case hend =>
          intro vs W hlen hv hK
          obtain ⟨v0, v1, v2, v3, v4, v5, v6, v7, v8, v9, v10, rfl⟩ : ∃ v0 v1 v2 v3 v4 v5 v6 v7 v8 v9 v10, vs = [v0, v1, v2, v3, v4, v5, v6, v7, v8, v9, v10] := by
            match vs, hlen with
            | [v0, v1, v2, v3, v4, v5, v6, v7, v8, v9, v10], _ => exact ⟨_, _, _, _, _, _, _, _, _, _, _, rfl⟩
          obtain ⟨bz, rfl⟩ : ∃ b : Bool, v10 = .bool b := hv 10 _ _ v10 rfl rfl rfl
          have SK := kd hK
          clear hv hlen hK SS
          simp only [putL, Act.put, List.setIfInBounds_toArray, List.set_cons_zero, List.set_cons_succ]
          cases bz with
          | true =>
            have r4 : IntKind.i64.wrap ((h : Int) + 1) = (h : Int) + 1 := by rw [IntKind.wrap_i64]; omega
            go_wp2_with fail
            go_roundw
            case rel => exact ⟨h + 1, j, by omega, by omega, by omega, by go_num, rfl, SK⟩
            case measure => simp [intOf]; omega
          | false =>
            go_wp2_with fail
            go_roundw
            case rel => exact ⟨i, h, by omega, by omega, by omega, rfl, rfl, SK⟩
            case measure => simp [intOf]; omega
      · have q2 : decide ((i : Int) < (j : Int)) = false := by simp; omega
        have q3 : ¬ (i : Int) < (j : Int) := by omega
        have r3 : IntKind.i64.wrap ((i : Int) - 1) = (i : Int) - 1 := by rw [IntKind.wrap_i64]; omega
        go_wp2_with fail
        clear q2 q3
        go_loopw [13] (fun vk wx => ∃ k : Nat, a ≤ k ∧ vk = .int .i64 k ∧ Hid (KR w0 g n wx)) (fun vk _ => i - (intOf vk).toNat)
        case atStart => exact ⟨a, by omega, rfl, SS⟩
        case round =>
          clear SS
          obtain ⟨k, hk, rfl, SS⟩ := hrel
          by_cases hlt2 : k + 1 < i
          · have q2 : decide ((k : Int) < (i : Int) - 1) = true := by simp; omega
            have q3 : (k : Int) < (i : Int) - 1 := by omega
            go_upto_region 11 with (fail)
            clear q2 q3 r3
            refine region_loose (by kernel_rfl) (by kernel_rfl) (fun j v => (([fun v => v = (.slice (some ⟨g, 0, none⟩) n cap), fun v => v = (.int .i64 ((k : Int))), fun v => v = (.slice (some ⟨g, 0, none⟩) n cap), fun v => v = (.int .i64 ((k : Int))), fun v => v = (.int .i64 ((k : Int) + 1)), fun v => v = (.slice (some ⟨g, 0, none⟩) n cap), fun v => v = (.int .i64 ((k : Int))), fun v => v = (.int .i64 ((k : Int) + 1)), fun v => v = (.pointer (some ⟨g, (k + 1) * 3, none⟩)), fun v => ∃ e : PB, v = .agg (encP e).toArray, fun v => v = (.slice (some ⟨g, 0, none⟩) n cap), fun v => v = (.int .i64 ((k : Int))), fun v => v = (.pointer (some ⟨g, (k) * 3, none⟩)), fun v => ∃ e : PB, v = .agg (encP e).toArray, fun v => v = (.pointer (some ⟨g, (k) * 3, none⟩)), fun _ => True, fun v => v = (.pointer (some ⟨g, (k + 1) * 3, none⟩)), fun _ => True] : List (Value → Prop)).getD j (fun _ => True)) v) (fun W => KR w0 g n W) (by kernel_rfl) (SS.out.call (Below.refl _ _).drew) ?hstep ?hend
            case hstep =>
              intro j o ho a' W hK hF hD
              match j, ho with
              | 0, ho =>
                obtain rfl := Option.some.inj ho
                exact rel_free ho rfl (wp_mv1 (.tmp 0) (.inl rfl) ⟨_, rfl, fun _ _ => (show a'.eval (.tmp 0) = .slice (some ⟨g, 0, none⟩) n cap from ((free_eval hF (by kernel_rfl)).trans rfl)), hK⟩)
              | 1, ho =>
                obtain rfl := Option.some.inj ho
                exact rel_free ho rfl (wp_mv1 (.tmp 13) (.inl rfl) ⟨_, rfl, fun _ _ => (show a'.eval (.tmp 13) = .int .i64 ((k : Int)) from ((free_eval hF (by kernel_rfl)).trans rfl)), hK⟩)
              | 2, ho =>
                obtain rfl := Option.some.inj ho
                exact rel_free ho rfl (wp_mv1 (.tmp 0) (.inl rfl) ⟨_, rfl, fun _ _ => (show a'.eval (.tmp 0) = .slice (some ⟨g, 0, none⟩) n cap from ((free_eval hF (by kernel_rfl)).trans rfl)), hK⟩)
              | 3, ho =>
                obtain rfl := Option.some.inj ho
                exact rel_free ho rfl (wp_mv1 (.tmp 13) (.inl rfl) ⟨_, rfl, fun _ _ => (show a'.eval (.tmp 13) = .int .i64 ((k : Int)) from ((free_eval hF (by kernel_rfl)).trans rfl)), hK⟩)
              | 4, ho =>
                obtain rfl := Option.some.inj ho
                have hx : a'.eval (.tmp 64) = .int .i64 ((k : Int)) := (dep_eval hD 3 (by kernel_rfl) rfl rfl)
                exact rel_free ho rfl (wp_bin1 _ _ _ _ _ rfl _ _ (.int .i64 ((k : Int) + 1)) hx rfl (fun w => by kernel_rfl) (fun w => add_i ((k : Int)) (1) (by omega) (by omega) w) ⟨_, rfl, fun _ _ => rfl, hK⟩)
              | 5, ho =>
                obtain rfl := Option.some.inj ho
                exact rel_free ho rfl (wp_mv1 (.tmp 0) (.inl rfl) ⟨_, rfl, fun _ _ => (show a'.eval (.tmp 0) = .slice (some ⟨g, 0, none⟩) n cap from ((free_eval hF (by kernel_rfl)).trans rfl)), hK⟩)
              | 6, ho =>
                obtain rfl := Option.some.inj ho
                exact rel_free ho rfl (wp_mv1 (.tmp 13) (.inl rfl) ⟨_, rfl, fun _ _ => (show a'.eval (.tmp 13) = .int .i64 ((k : Int)) from ((free_eval hF (by kernel_rfl)).trans rfl)), hK⟩)
              | 7, ho =>
                obtain rfl := Option.some.inj ho
                have hx : a'.eval (.tmp 67) = .int .i64 ((k : Int)) := (dep_eval hD 6 (by kernel_rfl) rfl rfl)
                exact rel_free ho rfl (wp_bin1 _ _ _ _ _ rfl _ _ (.int .i64 ((k : Int) + 1)) hx rfl (fun w => by kernel_rfl) (fun w => add_i ((k : Int)) (1) (by omega) (by omega) w) ⟨_, rfl, fun _ _ => rfl, hK⟩)
              | 8, ho =>
                obtain rfl := Option.some.inj ho
                have hx : a'.eval (.tmp 66) = .slice (some ⟨g, 0, none⟩) n cap := (dep_eval hD 5 (by kernel_rfl) rfl rfl)
                have hy : a'.eval (.tmp 68) = .int .i64 ((k : Int) + 1) := (dep_eval hD 7 (by kernel_rfl) rfl rfl)
                exact rel_free ho rfl (wp_ia1 (.tmp 66) (.tmp 68) rfl hx hy (k + 1) (by omega) (by omega) ⟨_, rfl, fun _ _ => rfl, hK⟩)
              | 9, ho =>
                obtain rfl := Option.some.inj ho
                obtain ⟨e, he⟩ := hK.elem (k + 1) (by omega)
                exact rel_free ho rfl (wp_load1 56 (.tmp 69) rfl g ((k + 1) * 3) (encP e) _ (dep_eval hD 8 (by kernel_rfl) rfl rfl) he Tryz.underlying56 rfl (sizePm _ _ _) ⟨_, rfl, fun _ _ => ⟨e, rfl⟩, hK⟩)
              | 10, ho =>
                obtain rfl := Option.some.inj ho
                exact rel_free ho rfl (wp_mv1 (.tmp 0) (.inl rfl) ⟨_, rfl, fun _ _ => (show a'.eval (.tmp 0) = .slice (some ⟨g, 0, none⟩) n cap from ((free_eval hF (by kernel_rfl)).trans rfl)), hK⟩)
              | 11, ho =>
                obtain rfl := Option.some.inj ho
                exact rel_free ho rfl (wp_mv1 (.tmp 13) (.inl rfl) ⟨_, rfl, fun _ _ => (show a'.eval (.tmp 13) = .int .i64 ((k : Int)) from ((free_eval hF (by kernel_rfl)).trans rfl)), hK⟩)
              | 12, ho =>
                obtain rfl := Option.some.inj ho
                have hx : a'.eval (.tmp 71) = .slice (some ⟨g, 0, none⟩) n cap := (dep_eval hD 10 (by kernel_rfl) rfl rfl)
                have hy : a'.eval (.tmp 72) = .int .i64 ((k : Int)) := (dep_eval hD 11 (by kernel_rfl) rfl rfl)
                exact rel_free ho rfl (wp_ia1 (.tmp 71) (.tmp 72) rfl hx hy (k) (by omega) (by omega) ⟨_, rfl, fun _ _ => rfl, hK⟩)
              | 13, ho =>
                obtain rfl := Option.some.inj ho
                obtain ⟨e, he⟩ := hK.elem (k) (by omega)
                exact rel_free ho rfl (wp_load1 56 (.tmp 73) rfl g ((k) * 3) (encP e) _ (dep_eval hD 12 (by kernel_rfl) rfl rfl) he Tryz.underlying56 rfl (sizePm _ _ _) ⟨_, rfl, fun _ _ => ⟨e, rfl⟩, hK⟩)
              | 14, ho =>
                obtain rfl := Option.some.inj ho
                have hx : a'.eval (.tmp 61) = .slice (some ⟨g, 0, none⟩) n cap := (dep_eval hD 0 (by kernel_rfl) rfl rfl)
                have hy : a'.eval (.tmp 62) = .int .i64 ((k : Int)) := (dep_eval hD 1 (by kernel_rfl) rfl rfl)
                exact rel_free ho rfl (wp_ia1 (.tmp 61) (.tmp 62) rfl hx hy (k) (by omega) (by omega) ⟨_, rfl, fun _ _ => rfl, hK⟩)
              | 15, ho =>
                obtain rfl := Option.some.inj ho
                obtain ⟨e, hy⟩ := (show ∃ e : PB, a'.eval (.tmp 70) = .agg (encP e).toArray from (dep_eval hD 9 (by kernel_rfl) rfl rfl))
                exact rel_free ho rfl (wp_store_mid 56 (.tmp 75) (.tmp 70) rfl g ((k) * 3) (encP e).toArray (dep_eval hD 14 (by kernel_rfl) rfl rfl) hy (hK.there (k) (by omega)) (sizePm _ _ _) (all_oneCell_toArray (pm_one _ _ _)) ⟨undef, rfl, (fun d h => by cases h), hK.put (k) (by omega) e⟩)
              | 16, ho =>
                obtain rfl := Option.some.inj ho
                have hx : a'.eval (.tmp 63) = .slice (some ⟨g, 0, none⟩) n cap := (dep_eval hD 2 (by kernel_rfl) rfl rfl)
                have hy : a'.eval (.tmp 65) = .int .i64 ((k : Int) + 1) := (dep_eval hD 4 (by kernel_rfl) rfl rfl)
                exact rel_free ho rfl (wp_ia1 (.tmp 63) (.tmp 65) rfl hx hy (k + 1) (by omega) (by omega) ⟨_, rfl, fun _ _ => rfl, hK⟩)
              | 17, ho =>
                obtain rfl := Option.some.inj ho
                obtain ⟨e, hy⟩ := (show ∃ e : PB, a'.eval (.tmp 74) = .agg (encP e).toArray from (dep_eval hD 13 (by kernel_rfl) rfl rfl))
                exact rel_free ho rfl (wp_store_mid 56 (.tmp 76) (.tmp 74) rfl g ((k + 1) * 3) (encP e).toArray (dep_eval hD 16 (by kernel_rfl) rfl rfl) hy (hK.there (k + 1) (by omega)) (sizePm _ _ _) (all_oneCell_toArray (pm_one _ _ _)) ⟨undef, rfl, (fun d h => by cases h), hK.put (k + 1) (by omega) e⟩)
              | j + 18, ho => exact absurd ho (by simp)
            case hend =>
              intro vs W hlen hv hK
              obtain ⟨v0, v1, v2, v3, v4, v5, v6, v7, v8, v9, v10, v11, v12, v13, v14, v15, v16, v17, rfl⟩ : ∃ v0 v1 v2 v3 v4 v5 v6 v7 v8 v9 v10 v11 v12 v13 v14 v15 v16 v17, vs = [v0, v1, v2, v3, v4, v5, v6, v7, v8, v9, v10, v11, v12, v13, v14, v15, v16, v17] := by
                match vs, hlen with
                | [v0, v1, v2, v3, v4, v5, v6, v7, v8, v9, v10, v11, v12, v13, v14, v15, v16, v17], _ => exact ⟨_, _, _, _, _, _, _, _, _, _, _, _, _, _, _, _, _, _, rfl⟩
              have SK := kd hK
              clear hv hlen hK SS
              simp only [putL, Act.put, List.setIfInBounds_toArray, List.set_cons_zero, List.set_cons_succ]
              have r4 : IntKind.i64.wrap ((k : Int) + 1) = (k : Int) + 1 := by rw [IntKind.wrap_i64]; omega
              go_wp2_with fail
              go_roundw
              case rel => exact ⟨k + 1, by omega, by go_num, SK⟩
              case measure => simp [intOf]; omega
          · have q2 : decide ((k : Int) < (i : Int) - 1) = false := by simp; omega
            have q3 : ¬ (k : Int) < (i : Int) - 1 := by omega
            go_wp2_with fail
            refine bodyPost_ret (results_none rfl _ _ _) rfl ?_
            exact ⟨rfl, SS.out⟩
  have q1 : ((m : Int) - (a : Int) == 1) = false := by simp; omega
  have q0 : ¬ (m : Int) - (a : Int) = 1 := by omega
  by_cases h2 : b - m = 1
  · have q2 : ((b : Int) - (m : Int) == 1) = true := by simp; omega
    have q3 : (b : Int) - (m : Int) = 1 := by omega
    go_wp2_with fail
    clear q0 q1 q2 q3 r1 r2
    go_loopw [14, 15] (fun vi vj wx => ∃ i j : Nat, a ≤ i ∧ i ≤ j ∧ j ≤ m ∧ vi = .int .i64 i ∧ vj = .int .i64 j ∧ Hid (KR w0 g n wx)) (fun vi vj _ => (intOf vj).toNat - (intOf vi).toNat)
    case atStart => exact ⟨a, m, by omega, by omega, by omega, rfl, rfl, SS⟩
    case round =>
      clear SS
      obtain ⟨i, j, hi, hij, hjb, rfl, rfl, SS⟩ := hrel
      by_cases hlt : i < j
      · have q2 : decide ((i : Int) < (j : Int)) = true := by simp; omega
        have q3 : (i : Int) < (j : Int) := by omega
        have r3 : IntKind.i64.wrap ((i : Int) + (j : Int)) = (i : Int) + (j : Int) := by rw [IntKind.wrap_i64]; omega
        go_upto_region 17 with (fail)
        obtain ⟨h, hh, hh1, hh2⟩ : ∃ h : Nat, ((i : Int) + (j : Int)) / 2 = h ∧ i ≤ h ∧ h < j := ⟨(i + j) / 2, by omega, by omega, by omega⟩
        rw [hh]
        clear hh r3 q2 q3
        refine region_loose (by kernel_rfl) (by kernel_rfl) (fun j v => (([fun v => v = (.func (.func 137) #[] #[]), fun v => v = (.slice (some ⟨g, 0, none⟩) n cap), fun v => v = (.int .i64 ((m : Int))), fun v => v = (.pointer (some ⟨g, (m) * 3, none⟩)), fun v => ∃ e : PB, v = .agg (encP e).toArray, fun v => v = (.slice (some ⟨g, 0, none⟩) n cap), fun v => v = (.int .i64 ((h : Int))), fun v => v = (.pointer (some ⟨g, (h) * 3, none⟩)), fun v => ∃ e : PB, v = .agg (encP e).toArray, fun v => ∃ z : Int, v = .int .i64 z, fun v => ∃ b : Bool, v = .bool b, fun v => ∃ b : Bool, v = .bool b] : List (Value → Prop)).getD j (fun _ => True)) v) (fun W => KR w0 g n W) (by kernel_rfl) (SS.out.call (Below.refl _ _).drew) ?hstep ?hend
        case hstep =>
          intro j o ho a' W hK hF hD
          match j, ho with
          | 0, ho =>
            obtain rfl := Option.some.inj ho
            exact rel_free ho rfl (wp_mv1 (.tmp 4) (.inl rfl) ⟨_, rfl, fun _ _ => (show a'.eval (.tmp 4) = .func (.func 137) #[] #[] from ((free_eval hF (by kernel_rfl)).trans rfl)), hK⟩)
          | 1, ho =>
            obtain rfl := Option.some.inj ho
            exact rel_free ho rfl (wp_mv1 (.tmp 0) (.inl rfl) ⟨_, rfl, fun _ _ => (show a'.eval (.tmp 0) = .slice (some ⟨g, 0, none⟩) n cap from ((free_eval hF (by kernel_rfl)).trans rfl)), hK⟩)
          | 2, ho =>
            obtain rfl := Option.some.inj ho
            exact rel_free ho rfl (wp_mv1 (.tmp 2) (.inl rfl) ⟨_, rfl, fun _ _ => (show a'.eval (.tmp 2) = .int .i64 ((m : Int)) from ((free_eval hF (by kernel_rfl)).trans rfl)), hK⟩)
          | 3, ho =>
            obtain rfl := Option.some.inj ho
            have hx : a'.eval (.tmp 93) = .slice (some ⟨g, 0, none⟩) n cap := (dep_eval hD 1 (by kernel_rfl) rfl rfl)
            have hy : a'.eval (.tmp 94) = .int .i64 ((m : Int)) := (dep_eval hD 2 (by kernel_rfl) rfl rfl)
            exact rel_free ho rfl (wp_ia1 (.tmp 93) (.tmp 94) rfl hx hy (m) (by omega) (by omega) ⟨_, rfl, fun _ _ => rfl, hK⟩)
          | 4, ho =>
            obtain rfl := Option.some.inj ho
            obtain ⟨e, he⟩ := hK.elem (m) (by omega)
            exact rel_free ho rfl (wp_load1 56 (.tmp 95) rfl g ((m) * 3) (encP e) _ (dep_eval hD 3 (by kernel_rfl) rfl rfl) he Tryz.underlying56 rfl (sizePm _ _ _) ⟨_, rfl, fun _ _ => ⟨e, rfl⟩, hK⟩)
          | 5, ho =>
            obtain rfl := Option.some.inj ho
            exact rel_free ho rfl (wp_mv1 (.tmp 0) (.inl rfl) ⟨_, rfl, fun _ _ => (show a'.eval (.tmp 0) = .slice (some ⟨g, 0, none⟩) n cap from ((free_eval hF (by kernel_rfl)).trans rfl)), hK⟩)
          | 6, ho =>
            obtain rfl := Option.some.inj ho
            exact rel_free ho rfl (wp_mv1 (.tmp 16) (.inl rfl) ⟨_, rfl, fun _ _ => (show a'.eval (.tmp 16) = .int .i64 ((h : Int)) from ((free_eval hF (by kernel_rfl)).trans rfl)), hK⟩)
          | 7, ho =>
            obtain rfl := Option.some.inj ho
            have hx : a'.eval (.tmp 97) = .slice (some ⟨g, 0, none⟩) n cap := (dep_eval hD 5 (by kernel_rfl) rfl rfl)
            have hy : a'.eval (.tmp 98) = .int .i64 ((h : Int)) := (dep_eval hD 6 (by kernel_rfl) rfl rfl)
            exact rel_free ho rfl (wp_ia1 (.tmp 97) (.tmp 98) rfl hx hy (h) (by omega) (by omega) ⟨_, rfl, fun _ _ => rfl, hK⟩)
          | 8, ho =>
            obtain rfl := Option.some.inj ho
            obtain ⟨e, he⟩ := hK.elem (h) (by omega)
            exact rel_free ho rfl (wp_load1 56 (.tmp 99) rfl g ((h) * 3) (encP e) _ (dep_eval hD 7 (by kernel_rfl) rfl rfl) he Tryz.underlying56 rfl (sizePm _ _ _) ⟨_, rfl, fun _ _ => ⟨e, rfl⟩, hK⟩)
          | 9, ho =>
            obtain rfl := Option.some.inj ho
            obtain ⟨e1, h1⟩ := (show ∃ e : PB, a'.eval (.tmp 96) = .agg (encP e).toArray from (dep_eval hD 4 (by kernel_rfl) rfl rfl))
            obtain ⟨e2, h2⟩ := (show ∃ e : PB, a'.eval (.tmp 100) = .agg (encP e).toArray from (dep_eval hD 8 (by kernel_rfl) rfl rfl))
            have hc : a'.eval (.tmp 92) = .func (.func 137) #[] #[] := (dep_eval hD 0 (by kernel_rfl) rfl rfl)
            exact rel_free ho rfl (wp_callv 92 _ _ rfl 137 hc #[.agg (encP e1).toArray, .agg (encP e2).toArray] (by simp only [List.map_toArray, List.map_cons, List.map_nil, h1, h2]) (enters_of Tryz.func137 (by kernel_rfl) rfl) ((cmp_b e1 e2 W).mono fun e W2 ⟨⟨z, he⟩, hb⟩ => ⟨_, he, _, rfl, (fun _ _ => ⟨z, rfl⟩), hK.call hb⟩))
          | 10, ho =>
            obtain rfl := Option.some.inj ho
            obtain ⟨z, hz⟩ := (show ∃ z : Int, a'.eval (.tmp 101) = .int .i64 z from (dep_eval hD 9 (by kernel_rfl) rfl rfl))
            exact rel_free ho rfl (wp_bin1 _ _ _ _ _ rfl _ _ (.bool (decide (z < 0))) hz rfl (fun w => by kernel_rfl) (fun w => lss_i z 0 w) ⟨_, rfl, fun _ _ => ⟨_, rfl⟩, hK⟩)
          | 11, ho =>
            obtain rfl := Option.some.inj ho
            obtain ⟨b, hb⟩ := (show ∃ b : Bool, a'.eval (.tmp 102) = .bool b from (dep_eval hD 10 (by kernel_rfl) rfl rfl))
            exact rel_free ho rfl (wp_not1 _ _ rfl _ hb ⟨_, rfl, fun _ _ => ⟨_, rfl⟩, hK⟩)
          | j + 12, ho => exact absurd ho (by simp)
        case hend =>
          intro vs W hlen hv hK
          obtain ⟨v0, v1, v2, v3, v4, v5, v6, v7, v8, v9, v10, v11, rfl⟩ : ∃ v0 v1 v2 v3 v4 v5 v6 v7 v8 v9 v10 v11, vs = [v0, v1, v2, v3, v4, v5, v6, v7, v8, v9, v10, v11] := by
            match vs, hlen with
            | [v0, v1, v2, v3, v4, v5, v6, v7, v8, v9, v10, v11], _ => exact ⟨_, _, _, _, _, _, _, _, _, _, _, _, rfl⟩
          obtain ⟨bz, rfl⟩ : ∃ b : Bool, v11 = .bool b := hv 11 _ _ v11 rfl rfl rfl
          have SK := kd hK
          clear hv hlen hK SS
          simp only [putL, Act.put, List.setIfInBounds_toArray, List.set_cons_zero, List.set_cons_succ]
          cases bz with
          | true =>
            have r4 : IntKind.i64.wrap ((h : Int) + 1) = (h : Int) + 1 := by rw [IntKind.wrap_i64]; omega
            go_wp2_with fail
            go_roundw
            case rel => exact ⟨h + 1, j, by omega, by omega, by omega, by go_num, rfl, SK⟩
            case measure => simp [intOf]; omega
          | false =>
            go_wp2_with fail
            go_roundw
            case rel => exact ⟨i, h, by omega, by omega, by omega, rfl, rfl, SK⟩
            case measure => simp [intOf]; omega
      · have q2 : decide ((i : Int) < (j : Int)) = false := by simp; omega
        have q3 : ¬ (i : Int) < (j : Int) := by omega
        go_wp2_with fail
        clear q2 q3
        go_loopw [17] (fun vk wx => ∃ k : Nat, k ≤ m ∧ vk = .int .i64 k ∧ Hid (KR w0 g n wx)) (fun vk _ => (intOf vk).toNat)
        case atStart => exact ⟨m, by omega, rfl, SS⟩
        case round =>
          clear SS
          obtain ⟨k, hk, rfl, SS⟩ := hrel
          by_cases hlt2 : i < k
          · have q2 : decide ((i : Int) < (k : Int)) = true := by simp; omega
            have q3 : (i : Int) < (k : Int) := by omega
            go_upto_region 23 with (fail)
            clear q2 q3
            refine region_loose (by kernel_rfl) (by kernel_rfl) (fun j v => (([fun v => v = (.slice (some ⟨g, 0, none⟩) n cap), fun v => v = (.int .i64 ((k : Int))), fun v => v = (.slice (some ⟨g, 0, none⟩) n cap), fun v => v = (.int .i64 ((k : Int))), fun v => v = (.int .i64 ((k : Int) - 1)), fun v => v = (.slice (some ⟨g, 0, none⟩) n cap), fun v => v = (.int .i64 ((k : Int))), fun v => v = (.int .i64 ((k : Int) - 1)), fun v => v = (.pointer (some ⟨g, (k - 1) * 3, none⟩)), fun v => ∃ e : PB, v = .agg (encP e).toArray, fun v => v = (.slice (some ⟨g, 0, none⟩) n cap), fun v => v = (.int .i64 ((k : Int))), fun v => v = (.pointer (some ⟨g, (k) * 3, none⟩)), fun v => ∃ e : PB, v = .agg (encP e).toArray, fun v => v = (.pointer (some ⟨g, (k) * 3, none⟩)), fun _ => True, fun v => v = (.pointer (some ⟨g, (k - 1) * 3, none⟩)), fun _ => True] : List (Value → Prop)).getD j (fun _ => True)) v) (fun W => KR w0 g n W) (by kernel_rfl) (SS.out.call (Below.refl _ _).drew) ?hstep ?hend
            case hstep =>
              intro j o ho a' W hK hF hD
              match j, ho with
              | 0, ho =>
                obtain rfl := Option.some.inj ho
                exact rel_free ho rfl (wp_mv1 (.tmp 0) (.inl rfl) ⟨_, rfl, fun _ _ => (show a'.eval (.tmp 0) = .slice (some ⟨g, 0, none⟩) n cap from ((free_eval hF (by kernel_rfl)).trans rfl)), hK⟩)
              | 1, ho =>
                obtain rfl := Option.some.inj ho
                exact rel_free ho rfl (wp_mv1 (.tmp 17) (.inl rfl) ⟨_, rfl, fun _ _ => (show a'.eval (.tmp 17) = .int .i64 ((k : Int)) from ((free_eval hF (by kernel_rfl)).trans rfl)), hK⟩)
              | 2, ho =>
                obtain rfl := Option.some.inj ho
                exact rel_free ho rfl (wp_mv1 (.tmp 0) (.inl rfl) ⟨_, rfl, fun _ _ => (show a'.eval (.tmp 0) = .slice (some ⟨g, 0, none⟩) n cap from ((free_eval hF (by kernel_rfl)).trans rfl)), hK⟩)
              | 3, ho =>
                obtain rfl := Option.some.inj ho
                exact rel_free ho rfl (wp_mv1 (.tmp 17) (.inl rfl) ⟨_, rfl, fun _ _ => (show a'.eval (.tmp 17) = .int .i64 ((k : Int)) from ((free_eval hF (by kernel_rfl)).trans rfl)), hK⟩)
              | 4, ho =>
                obtain rfl := Option.some.inj ho
                have hx : a'.eval (.tmp 116) = .int .i64 ((k : Int)) := (dep_eval hD 3 (by kernel_rfl) rfl rfl)
                exact rel_free ho rfl (wp_bin1 _ _ _ _ _ rfl _ _ (.int .i64 ((k : Int) - 1)) hx rfl (fun w => by kernel_rfl) (fun w => sub_i ((k : Int)) (1) (by omega) (by omega) w) ⟨_, rfl, fun _ _ => rfl, hK⟩)
              | 5, ho =>
                obtain rfl := Option.some.inj ho
                exact rel_free ho rfl (wp_mv1 (.tmp 0) (.inl rfl) ⟨_, rfl, fun _ _ => (show a'.eval (.tmp 0) = .slice (some ⟨g, 0, none⟩) n cap from ((free_eval hF (by kernel_rfl)).trans rfl)), hK⟩)
              | 6, ho =>
                obtain rfl := Option.some.inj ho
                exact rel_free ho rfl (wp_mv1 (.tmp 17) (.inl rfl) ⟨_, rfl, fun _ _ => (show a'.eval (.tmp 17) = .int .i64 ((k : Int)) from ((free_eval hF (by kernel_rfl)).trans rfl)), hK⟩)
              | 7, ho =>
                obtain rfl := Option.some.inj ho
                have hx : a'.eval (.tmp 119) = .int .i64 ((k : Int)) := (dep_eval hD 6 (by kernel_rfl) rfl rfl)
                exact rel_free ho rfl (wp_bin1 _ _ _ _ _ rfl _ _ (.int .i64 ((k : Int) - 1)) hx rfl (fun w => by kernel_rfl) (fun w => sub_i ((k : Int)) (1) (by omega) (by omega) w) ⟨_, rfl, fun _ _ => rfl, hK⟩)
              | 8, ho =>
                obtain rfl := Option.some.inj ho
                have hx : a'.eval (.tmp 118) = .slice (some ⟨g, 0, none⟩) n cap := (dep_eval hD 5 (by kernel_rfl) rfl rfl)
                have hy : a'.eval (.tmp 120) = .int .i64 ((k : Int) - 1) := (dep_eval hD 7 (by kernel_rfl) rfl rfl)
                exact rel_free ho rfl (wp_ia1 (.tmp 118) (.tmp 120) rfl hx hy (k - 1) (by omega) (by omega) ⟨_, rfl, fun _ _ => rfl, hK⟩)
              | 9, ho =>
                obtain rfl := Option.some.inj ho
                obtain ⟨e, he⟩ := hK.elem (k - 1) (by omega)
                exact rel_free ho rfl (wp_load1 56 (.tmp 121) rfl g ((k - 1) * 3) (encP e) _ (dep_eval hD 8 (by kernel_rfl) rfl rfl) he Tryz.underlying56 rfl (sizePm _ _ _) ⟨_, rfl, fun _ _ => ⟨e, rfl⟩, hK⟩)
              | 10, ho =>
                obtain rfl := Option.some.inj ho
                exact rel_free ho rfl (wp_mv1 (.tmp 0) (.inl rfl) ⟨_, rfl, fun _ _ => (show a'.eval (.tmp 0) = .slice (some ⟨g, 0, none⟩) n cap from ((free_eval hF (by kernel_rfl)).trans rfl)), hK⟩)
              | 11, ho =>
                obtain rfl := Option.some.inj ho
                exact rel_free ho rfl (wp_mv1 (.tmp 17) (.inl rfl) ⟨_, rfl, fun _ _ => (show a'.eval (.tmp 17) = .int .i64 ((k : Int)) from ((free_eval hF (by kernel_rfl)).trans rfl)), hK⟩)
              | 12, ho =>
                obtain rfl := Option.some.inj ho
                have hx : a'.eval (.tmp 123) = .slice (some ⟨g, 0, none⟩) n cap := (dep_eval hD 10 (by kernel_rfl) rfl rfl)
                have hy : a'.eval (.tmp 124) = .int .i64 ((k : Int)) := (dep_eval hD 11 (by kernel_rfl) rfl rfl)
                exact rel_free ho rfl (wp_ia1 (.tmp 123) (.tmp 124) rfl hx hy (k) (by omega) (by omega) ⟨_, rfl, fun _ _ => rfl, hK⟩)
              | 13, ho =>
                obtain rfl := Option.some.inj ho
                obtain ⟨e, he⟩ := hK.elem (k) (by omega)
                exact rel_free ho rfl (wp_load1 56 (.tmp 125) rfl g ((k) * 3) (encP e) _ (dep_eval hD 12 (by kernel_rfl) rfl rfl) he Tryz.underlying56 rfl (sizePm _ _ _) ⟨_, rfl, fun _ _ => ⟨e, rfl⟩, hK⟩)
              | 14, ho =>
                obtain rfl := Option.some.inj ho
                have hx : a'.eval (.tmp 113) = .slice (some ⟨g, 0, none⟩) n cap := (dep_eval hD 0 (by kernel_rfl) rfl rfl)
                have hy : a'.eval (.tmp 114) = .int .i64 ((k : Int)) := (dep_eval hD 1 (by kernel_rfl) rfl rfl)
                exact rel_free ho rfl (wp_ia1 (.tmp 113) (.tmp 114) rfl hx hy (k) (by omega) (by omega) ⟨_, rfl, fun _ _ => rfl, hK⟩)
              | 15, ho =>
                obtain rfl := Option.some.inj ho
                obtain ⟨e, hy⟩ := (show ∃ e : PB, a'.eval (.tmp 122) = .agg (encP e).toArray from (dep_eval hD 9 (by kernel_rfl) rfl rfl))
                exact rel_free ho rfl (wp_store_mid 56 (.tmp 127) (.tmp 122) rfl g ((k) * 3) (encP e).toArray (dep_eval hD 14 (by kernel_rfl) rfl rfl) hy (hK.there (k) (by omega)) (sizePm _ _ _) (all_oneCell_toArray (pm_one _ _ _)) ⟨undef, rfl, (fun d h => by cases h), hK.put (k) (by omega) e⟩)
              | 16, ho =>
                obtain rfl := Option.some.inj ho
                have hx : a'.eval (.tmp 115) = .slice (some ⟨g, 0, none⟩) n cap := (dep_eval hD 2 (by kernel_rfl) rfl rfl)
                have hy : a'.eval (.tmp 117) = .int .i64 ((k : Int) - 1) := (dep_eval hD 4 (by kernel_rfl) rfl rfl)
                exact rel_free ho rfl (wp_ia1 (.tmp 115) (.tmp 117) rfl hx hy (k - 1) (by omega) (by omega) ⟨_, rfl, fun _ _ => rfl, hK⟩)
              | 17, ho =>
                obtain rfl := Option.some.inj ho
                obtain ⟨e, hy⟩ := (show ∃ e : PB, a'.eval (.tmp 126) = .agg (encP e).toArray from (dep_eval hD 13 (by kernel_rfl) rfl rfl))
                exact rel_free ho rfl (wp_store_mid 56 (.tmp 128) (.tmp 126) rfl g ((k - 1) * 3) (encP e).toArray (dep_eval hD 16 (by kernel_rfl) rfl rfl) hy (hK.there (k - 1) (by omega)) (sizePm _ _ _) (all_oneCell_toArray (pm_one _ _ _)) ⟨undef, rfl, (fun d h => by cases h), hK.put (k - 1) (by omega) e⟩)
              | j + 18, ho => exact absurd ho (by simp)
            case hend =>
              intro vs W hlen hv hK
              obtain ⟨v0, v1, v2, v3, v4, v5, v6, v7, v8, v9, v10, v11, v12, v13, v14, v15, v16, v17, rfl⟩ : ∃ v0 v1 v2 v3 v4 v5 v6 v7 v8 v9 v10 v11 v12 v13 v14 v15 v16 v17, vs = [v0, v1, v2, v3, v4, v5, v6, v7, v8, v9, v10, v11, v12, v13, v14, v15, v16, v17] := by
                match vs, hlen with
                | [v0, v1, v2, v3, v4, v5, v6, v7, v8, v9, v10, v11, v12, v13, v14, v15, v16, v17], _ => exact ⟨_, _, _, _, _, _, _, _, _, _, _, _, _, _, _, _, _, _, rfl⟩
              have SK := kd hK
              clear hv hlen hK SS
              simp only [putL, Act.put, List.setIfInBounds_toArray, List.set_cons_zero, List.set_cons_succ]
              have r4 : IntKind.i64.wrap ((k : Int) - 1) = (k : Int) - 1 := by rw [IntKind.wrap_i64]; omega
              go_wp2_with fail
              go_roundw
              case rel => exact ⟨k - 1, by omega, congrArg (Value.int .i64) (by omega), SK⟩
              case measure => simp [intOf]; omega
          · have q2 : decide ((i : Int) < (k : Int)) = false := by simp; omega
            have q3 : ¬ (i : Int) < (k : Int) := by omega
            go_wp2_with fail
            refine bodyPost_ret (results_none rfl _ _ _) rfl ?_
            exact ⟨rfl, SS.out⟩
  have q2 : ((b : Int) - (m : Int) == 1) = false := by simp; omega
  have q3 : ¬ (b : Int) - (m : Int) = 1 := by omega
  have r3 : IntKind.i64.wrap ((a : Int) + (b : Int)) = (a : Int) + (b : Int) := by rw [IntKind.wrap_i64]; omega
  have r4 : IntKind.i64.wrap (((a : Int) + (b : Int)) / 2 + (m : Int)) = ((a : Int) + (b : Int)) / 2 + (m : Int) := by rw [IntKind.wrap_i64]; omega
  go_upto_region 27 with (fail)
  obtain ⟨mid, hmid, hm1, hm2⟩ : ∃ mid : Nat, ((a : Int) + (b : Int)) / 2 = mid ∧ 2 * mid ≤ a + b ∧ a + b ≤ 2 * mid + 1 := ⟨(a + b) / 2, by omega, by omega, by omega⟩
  rw [hmid]
  clear hmid r3 r4 q0 q1 q2 q3 r1 r2
  have r6 : IntKind.i64.wrap ((mid : Int) + (m : Int) - 1) = (mid : Int) + (m : Int) - 1 := by rw [IntKind.wrap_i64]; omega
  by_cases hmm : mid < m
  · have r7 : IntKind.i64.wrap ((mid : Int) + (m : Int) - (b : Int)) = (mid : Int) + (m : Int) - (b : Int) := by rw [IntKind.wrap_i64]; omega
    have q4 : decide ((mid : Int) < (m : Int)) = true := by simp; omega
    have q5 : (mid : Int) < (m : Int) := by omega
    go_wp2_with fail
    clear q4 q5
    go_loopw [20, 21] (fun vi vj wx => ∃ i j : Nat, mid + m - b ≤ i ∧ i ≤ j ∧ j ≤ mid ∧ vi = .int .i64 i ∧ vj = .int .i64 j ∧ Hid (KR w0 g n wx)) (fun vi vj _ => (intOf vj).toNat - (intOf vi).toNat)
    case atStart => exact ⟨mid + m - b, mid, by omega, by omega, by omega, congrArg (Value.int .i64) (by omega), rfl, SS⟩
    case round =>
      clear SS
      obtain ⟨i, j, hi, hij, hjb, rfl, rfl, SS⟩ := hrel
      by_cases hlt : i < j
      · have q2 : decide ((i : Int) < (j : Int)) = true := by simp; omega
        have q3 : (i : Int) < (j : Int) := by omega
        have r3 : IntKind.i64.wrap ((i : Int) + (j : Int)) = (i : Int) + (j : Int) := by rw [IntKind.wrap_i64]; omega
        go_upto_region 35 with (fail)
        obtain ⟨h, hh, hh1, hh2⟩ : ∃ h : Nat, ((i : Int) + (j : Int)) / 2 = h ∧ i ≤ h ∧ h < j := ⟨(i + j) / 2, by omega, by omega, by omega⟩
        rw [hh]
        clear hh r3 q2 q3
        refine region_loose (by kernel_rfl) (by kernel_rfl) (fun j v => (([fun v => v = (.func (.func 137) #[] #[]), fun v => v = (.slice (some ⟨g, 0, none⟩) n cap), fun v => v = (.int .i64 ((mid : Int) + (m : Int) - 1)), fun v => v = (.int .i64 ((h : Int))), fun v => v = (.int .i64 ((mid : Int) + (m : Int) - 1 - (h : Int))), fun v => v = (.pointer (some ⟨g, (mid + m - 1 - h) * 3, none⟩)), fun v => ∃ e : PB, v = .agg (encP e).toArray, fun v => v = (.slice (some ⟨g, 0, none⟩) n cap), fun v => v = (.int .i64 ((h : Int))), fun v => v = (.pointer (some ⟨g, (h) * 3, none⟩)), fun v => ∃ e : PB, v = .agg (encP e).toArray, fun v => ∃ z : Int, v = .int .i64 z, fun v => ∃ b : Bool, v = .bool b, fun v => ∃ b : Bool, v = .bool b] : List (Value → Prop)).getD j (fun _ => True)) v) (fun W => KR w0 g n W) (by kernel_rfl) (SS.out.call (Below.refl _ _).drew) ?hstep ?hend
        case hstep =>
          intro j o ho a' W hK hF hD
          match j, ho with
          | 0, ho =>
            obtain rfl := Option.some.inj ho
            exact rel_free ho rfl (wp_mv1 (.tmp 4) (.inl rfl) ⟨_, rfl, fun _ _ => (show a'.eval (.tmp 4) = .func (.func 137) #[] #[] from ((free_eval hF (by kernel_rfl)).trans rfl)), hK⟩)
          | 1, ho =>
            obtain rfl := Option.some.inj ho
            exact rel_free ho rfl (wp_mv1 (.tmp 0) (.inl rfl) ⟨_, rfl, fun _ _ => (show a'.eval (.tmp 0) = .slice (some ⟨g, 0, none⟩) n cap from ((free_eval hF (by kernel_rfl)).trans rfl)), hK⟩)
          | 2, ho =>
            obtain rfl := Option.some.inj ho
            exact rel_free ho rfl (wp_mv1 (.tmp 22) (.inl rfl) ⟨_, rfl, fun _ _ => (show a'.eval (.tmp 22) = .int .i64 ((mid : Int) + (m : Int) - 1) from ((free_eval hF (by kernel_rfl)).trans rfl)), hK⟩)
          | 3, ho =>
            obtain rfl := Option.some.inj ho
            exact rel_free ho rfl (wp_mv1 (.tmp 23) (.inl rfl) ⟨_, rfl, fun _ _ => (show a'.eval (.tmp 23) = .int .i64 ((h : Int)) from ((free_eval hF (by kernel_rfl)).trans rfl)), hK⟩)
          | 4, ho =>
            obtain rfl := Option.some.inj ho
            have hx : a'.eval (.tmp 160) = .int .i64 ((mid : Int) + (m : Int) - 1) := (dep_eval hD 2 (by kernel_rfl) rfl rfl)
            have hy : a'.eval (.tmp 161) = .int .i64 ((h : Int)) := (dep_eval hD 3 (by kernel_rfl) rfl rfl)
            exact rel_free ho rfl (wp_bin1 _ _ _ _ _ rfl _ _ (.int .i64 ((mid : Int) + (m : Int) - 1 - (h : Int))) hx hy (fun w => by kernel_rfl) (fun w => sub_i ((mid : Int) + (m : Int) - 1) ((h : Int)) (by omega) (by omega) w) ⟨_, rfl, fun _ _ => rfl, hK⟩)
          | 5, ho =>
            obtain rfl := Option.some.inj ho
            have hx : a'.eval (.tmp 159) = .slice (some ⟨g, 0, none⟩) n cap := (dep_eval hD 1 (by kernel_rfl) rfl rfl)
            have hy : a'.eval (.tmp 162) = .int .i64 ((mid : Int) + (m : Int) - 1 - (h : Int)) := (dep_eval hD 4 (by kernel_rfl) rfl rfl)
            exact rel_free ho rfl (wp_ia1 (.tmp 159) (.tmp 162) rfl hx hy (mid + m - 1 - h) (by omega) (by omega) ⟨_, rfl, fun _ _ => rfl, hK⟩)
          | 6, ho =>
            obtain rfl := Option.some.inj ho
            obtain ⟨e, he⟩ := hK.elem (mid + m - 1 - h) (by omega)
            exact rel_free ho rfl (wp_load1 56 (.tmp 163) rfl g ((mid + m - 1 - h) * 3) (encP e) _ (dep_eval hD 5 (by kernel_rfl) rfl rfl) he Tryz.underlying56 rfl (sizePm _ _ _) ⟨_, rfl, fun _ _ => ⟨e, rfl⟩, hK⟩)
          | 7, ho =>
            obtain rfl := Option.some.inj ho
            exact rel_free ho rfl (wp_mv1 (.tmp 0) (.inl rfl) ⟨_, rfl, fun _ _ => (show a'.eval (.tmp 0) = .slice (some ⟨g, 0, none⟩) n cap from ((free_eval hF (by kernel_rfl)).trans rfl)), hK⟩)
          | 8, ho =>
            obtain rfl := Option.some.inj ho
            exact rel_free ho rfl (wp_mv1 (.tmp 23) (.inl rfl) ⟨_, rfl, fun _ _ => (show a'.eval (.tmp 23) = .int .i64 ((h : Int)) from ((free_eval hF (by kernel_rfl)).trans rfl)), hK⟩)
          | 9, ho =>
            obtain rfl := Option.some.inj ho
            have hx : a'.eval (.tmp 165) = .slice (some ⟨g, 0, none⟩) n cap := (dep_eval hD 7 (by kernel_rfl) rfl rfl)
            have hy : a'.eval (.tmp 166) = .int .i64 ((h : Int)) := (dep_eval hD 8 (by kernel_rfl) rfl rfl)
            exact rel_free ho rfl (wp_ia1 (.tmp 165) (.tmp 166) rfl hx hy (h) (by omega) (by omega) ⟨_, rfl, fun _ _ => rfl, hK⟩)
          | 10, ho =>
            obtain rfl := Option.some.inj ho
            obtain ⟨e, he⟩ := hK.elem (h) (by omega)
            exact rel_free ho rfl (wp_load1 56 (.tmp 167) rfl g ((h) * 3) (encP e) _ (dep_eval hD 9 (by kernel_rfl) rfl rfl) he Tryz.underlying56 rfl (sizePm _ _ _) ⟨_, rfl, fun _ _ => ⟨e, rfl⟩, hK⟩)
          | 11, ho =>
            obtain rfl := Option.some.inj ho
            obtain ⟨e1, h1⟩ := (show ∃ e : PB, a'.eval (.tmp 164) = .agg (encP e).toArray from (dep_eval hD 6 (by kernel_rfl) rfl rfl))
            obtain ⟨e2, h2⟩ := (show ∃ e : PB, a'.eval (.tmp 168) = .agg (encP e).toArray from (dep_eval hD 10 (by kernel_rfl) rfl rfl))
            have hc : a'.eval (.tmp 158) = .func (.func 137) #[] #[] := (dep_eval hD 0 (by kernel_rfl) rfl rfl)
            exact rel_free ho rfl (wp_callv 158 _ _ rfl 137 hc #[.agg (encP e1).toArray, .agg (encP e2).toArray] (by simp only [List.map_toArray, List.map_cons, List.map_nil, h1, h2]) (enters_of Tryz.func137 (by kernel_rfl) rfl) ((cmp_b e1 e2 W).mono fun e W2 ⟨⟨z, he⟩, hb⟩ => ⟨_, he, _, rfl, (fun _ _ => ⟨z, rfl⟩), hK.call hb⟩))
          | 12, ho =>
            obtain rfl := Option.some.inj ho
            obtain ⟨z, hz⟩ := (show ∃ z : Int, a'.eval (.tmp 169) = .int .i64 z from (dep_eval hD 11 (by kernel_rfl) rfl rfl))
            exact rel_free ho rfl (wp_bin1 _ _ _ _ _ rfl _ _ (.bool (decide (z < 0))) hz rfl (fun w => by kernel_rfl) (fun w => lss_i z 0 w) ⟨_, rfl, fun _ _ => ⟨_, rfl⟩, hK⟩)
          | 13, ho =>
            obtain rfl := Option.some.inj ho
            obtain ⟨b, hb⟩ := (show ∃ b : Bool, a'.eval (.tmp 170) = .bool b from (dep_eval hD 12 (by kernel_rfl) rfl rfl))
            exact rel_free ho rfl (wp_not1 _ _ rfl _ hb ⟨_, rfl, fun _ _ => ⟨_, rfl⟩, hK⟩)
          | j + 14, ho => exact absurd ho (by simp)
        case hend =>
          intro vs W hlen hv hK
          obtain ⟨v0, v1, v2, v3, v4, v5, v6, v7, v8, v9, v10, v11, v12, v13, rfl⟩ : ∃ v0 v1 v2 v3 v4 v5 v6 v7 v8 v9 v10 v11 v12 v13, vs = [v0, v1, v2, v3, v4, v5, v6, v7, v8, v9, v10, v11, v12, v13] := by
            match vs, hlen with
            | [v0, v1, v2, v3, v4, v5, v6, v7, v8, v9, v10, v11, v12, v13], _ => exact ⟨_, _, _, _, _, _, _, _, _, _, _, _, _, _, rfl⟩
          obtain ⟨bz, rfl⟩ : ∃ b : Bool, v13 = .bool b := hv 13 _ _ v13 rfl rfl rfl
          have SK := kd hK
          clear hv hlen hK SS
          simp only [putL, Act.put, List.setIfInBounds_toArray, List.set_cons_zero, List.set_cons_succ]
          cases bz with
          | true =>
            have r4 : IntKind.i64.wrap ((h : Int) + 1) = (h : Int) + 1 := by rw [IntKind.wrap_i64]; omega
            go_wp2_with fail
            go_roundw
            case rel => exact ⟨h + 1, j, by omega, by omega, by omega, by go_num, rfl, SK⟩
            case measure => simp [intOf]; omega
          | false =>
            go_wp2_with fail
            go_roundw
            case rel => exact ⟨i, h, by omega, by omega, by omega, rfl, rfl, SK⟩
            case measure => simp [intOf]; omega
      · have q2 : decide ((i : Int) < (j : Int)) = false := by simp; omega
        have q3 : ¬ (i : Int) < (j : Int) := by omega
        obtain ⟨s, hs⟩ : ∃ s, s = i := ⟨_, rfl⟩
        subst hs
        have r5 : IntKind.i64.wrap ((mid : Int) + (m : Int) - (s : Int)) = (mid : Int) + (m : Int) - (s : Int) := by rw [IntKind.wrap_i64]; omega
        go_upto_region 39 with (fail)
        obtain ⟨e, he⟩ : ∃ e : Nat, e + s = mid + m := ⟨mid + m - s, by omega⟩
        rw [show (mid : Int) + (m : Int) - (s : Int) = (e : Int) by omega]
        clear q2 q3 r5
        go_cut [185] (fun v wx => v = .bool (decide (s < m) && decide (m < e)) ∧ Hid (KR w0 g n wx))
        case first => as_aux_lemma =>
          by_cases c1 : s < m
          · obtain ⟨x1, x2⟩ := dlt c1
            by_cases c2 : m < e
            · obtain ⟨y1, y2⟩ := dlt c2
              go_wp2_with fail
              go_meet
              exact ⟨by simp [c1, c2], SS⟩
            · obtain ⟨y1, y2⟩ := dnl c2
              go_wp2_with fail
              go_meet
              exact ⟨by simp [c1, c2], SS⟩
          · obtain ⟨x1, x2⟩ := dnl c1
            go_wp2_with fail
            go_meet
            exact ⟨by simp [c1], SS⟩
        case rest =>
        obtain ⟨rfl, S0a⟩ := hcut
        clear SS
        rename_i KK hKK
        refine hKK _ _ ?_
        clear hKK KK
        go_cut [186] (fun _ wx => Hid (KR w0 g n wx))
        case first => as_aux_lemma =>
          cases hb : (decide (s < m) && decide (m < e)) with
          | true =>
            obtain ⟨c1, c2⟩ : s < m ∧ m < e := by simpa using hb
            go_wp2_with fail
            refine (rot_any w0 _ g n cap S0a.out s m e (by omega) (by omega) (by omega) hn).mono ?_
            rintro _ wz ⟨rfl, hz⟩
            have SZ := kd hz
            clear hz
            go_wp2_with fail
            go_meet
            exact SZ
          | false =>
            go_wp2_with fail
            go_meet
            exact S0a
        case rest =>
        have S0b := hcut
        clear S0a hcut
        go_upto_region 41 with (fail)
        go_cut [199] (fun v wx => v = .bool (decide (a < s) && decide (s < mid)) ∧ Hid (KR w0 g n wx))
        case first => as_aux_lemma =>
          by_cases c1 : a < s
          · obtain ⟨x1, x2⟩ := dlt c1
            by_cases c2 : s < mid
            · obtain ⟨y1, y2⟩ := dlt c2
              go_wp2_with fail
              go_meet
              exact ⟨by simp [c1, c2], S0b⟩
            · obtain ⟨y1, y2⟩ := dnl c2
              go_wp2_with fail
              go_meet
              exact ⟨by simp [c1, c2], S0b⟩
          · obtain ⟨x1, x2⟩ := dnl c1
            go_wp2_with fail
            go_meet
            exact ⟨by simp [c1], S0b⟩
        case rest =>
        obtain ⟨rfl, S1a⟩ := hcut
        clear S0b
        rename_i KK hKK
        refine hKK _ _ ?_
        clear hKK KK
        go_cut [200] (fun _ wx => Hid (KR w0 g n wx))
        case first => as_aux_lemma =>
          cases hb : (decide (a < s) && decide (s < mid)) with
          | true =>
            obtain ⟨c1, c2⟩ : a < s ∧ s < mid := by simpa using hb
            go_wp2_with fail
            refine (IH.out _ S1a.out a s mid (by omega) (by omega) (by omega) (by omega)).mono ?_
            rintro _ wz ⟨rfl, hz⟩
            have SZ := kd hz
            clear hz
            go_wp2_with fail
            go_meet
            exact SZ
          | false =>
            go_wp2_with fail
            go_meet
            exact S1a
        case rest =>
        have S1b := hcut
        clear S1a hcut
        go_upto_region 43 with (fail)
        go_cut [213] (fun v wx => v = .bool (decide (mid < e) && decide (e < b)) ∧ Hid (KR w0 g n wx))
        case first => as_aux_lemma =>
          by_cases c1 : mid < e
          · obtain ⟨x1, x2⟩ := dlt c1
            by_cases c2 : e < b
            · obtain ⟨y1, y2⟩ := dlt c2
              go_wp2_with fail
              go_meet
              exact ⟨by simp [c1, c2], S1b⟩
            · obtain ⟨y1, y2⟩ := dnl c2
              go_wp2_with fail
              go_meet
              exact ⟨by simp [c1, c2], S1b⟩
          · obtain ⟨x1, x2⟩ := dnl c1
            go_wp2_with fail
            go_meet
            exact ⟨by simp [c1], S1b⟩
        case rest =>
        obtain ⟨rfl, S2a⟩ := hcut
        clear S1b
        rename_i KK hKK
        refine hKK _ _ ?_
        clear hKK KK
        cases hb : (decide (mid < e) && decide (e < b)) with
          | true =>
            obtain ⟨c1, c2⟩ : mid < e ∧ e < b := by simpa using hb
            go_wp2_with fail
            refine (IH.out _ S2a.out mid e b (by omega) (by omega) (by omega) (by omega)).mono ?_
            rintro _ wz ⟨rfl, hz⟩
            have SZ := kd hz
            clear hz
            go_wp2_with fail
            first
              | (go_end0; exact ⟨rfl, SZ.out⟩)
              | (refine bodyPost_ret (results_none rfl _ _ _) rfl ?_; exact ⟨rfl, SZ.out⟩)
          | false =>
            go_wp2_with fail
            first
              | (go_end0; exact ⟨rfl, S2a.out⟩)
              | (refine bodyPost_ret (results_none rfl _ _ _) rfl ?_; exact ⟨rfl, S2a.out⟩)
  · 
    have q4 : decide ((mid : Int) < (m : Int)) = false := by simp; omega
    have q5 : ¬ (mid : Int) < (m : Int) := by omega
    go_wp2_with fail
    clear q4 q5
    go_loopw [20, 21] (fun vi vj wx => ∃ i j : Nat, a ≤ i ∧ i ≤ j ∧ j ≤ m ∧ vi = .int .i64 i ∧ vj = .int .i64 j ∧ Hid (KR w0 g n wx)) (fun vi vj _ => (intOf vj).toNat - (intOf vi).toNat)
    case atStart => exact ⟨a, m, by omega, by omega, by omega, rfl, rfl, SS⟩
    case round =>
      clear SS
      obtain ⟨i, j, hi, hij, hjb, rfl, rfl, SS⟩ := hrel
      by_cases hlt : i < j
      · have q2 : decide ((i : Int) < (j : Int)) = true := by simp; omega
        have q3 : (i : Int) < (j : Int) := by omega
        have r3 : IntKind.i64.wrap ((i : Int) + (j : Int)) = (i : Int) + (j : Int) := by rw [IntKind.wrap_i64]; omega
        go_upto_region 35 with (fail)
        obtain ⟨h, hh, hh1, hh2⟩ : ∃ h : Nat, ((i : Int) + (j : Int)) / 2 = h ∧ i ≤ h ∧ h < j := ⟨(i + j) / 2, by omega, by omega, by omega⟩
        rw [hh]
        clear hh r3 q2 q3
        refine region_loose (by kernel_rfl) (by kernel_rfl) (fun j v => (([fun v => v = (.func (.func 137) #[] #[]), fun v => v = (.slice (some ⟨g, 0, none⟩) n cap), fun v => v = (.int .i64 ((mid : Int) + (m : Int) - 1)), fun v => v = (.int .i64 ((h : Int))), fun v => v = (.int .i64 ((mid : Int) + (m : Int) - 1 - (h : Int))), fun v => v = (.pointer (some ⟨g, (mid + m - 1 - h) * 3, none⟩)), fun v => ∃ e : PB, v = .agg (encP e).toArray, fun v => v = (.slice (some ⟨g, 0, none⟩) n cap), fun v => v = (.int .i64 ((h : Int))), fun v => v = (.pointer (some ⟨g, (h) * 3, none⟩)), fun v => ∃ e : PB, v = .agg (encP e).toArray, fun v => ∃ z : Int, v = .int .i64 z, fun v => ∃ b : Bool, v = .bool b, fun v => ∃ b : Bool, v = .bool b] : List (Value → Prop)).getD j (fun _ => True)) v) (fun W => KR w0 g n W) (by kernel_rfl) (SS.out.call (Below.refl _ _).drew) ?hstep ?hend
        case hstep =>
          intro j o ho a' W hK hF hD
          match j, ho with
          | 0, ho =>
            obtain rfl := Option.some.inj ho
            exact rel_free ho rfl (wp_mv1 (.tmp 4) (.inl rfl) ⟨_, rfl, fun _ _ => (show a'.eval (.tmp 4) = .func (.func 137) #[] #[] from ((free_eval hF (by kernel_rfl)).trans rfl)), hK⟩)
          | 1, ho =>
            obtain rfl := Option.some.inj ho
            exact rel_free ho rfl (wp_mv1 (.tmp 0) (.inl rfl) ⟨_, rfl, fun _ _ => (show a'.eval (.tmp 0) = .slice (some ⟨g, 0, none⟩) n cap from ((free_eval hF (by kernel_rfl)).trans rfl)), hK⟩)
          | 2, ho =>
            obtain rfl := Option.some.inj ho
            exact rel_free ho rfl (wp_mv1 (.tmp 22) (.inl rfl) ⟨_, rfl, fun _ _ => (show a'.eval (.tmp 22) = .int .i64 ((mid : Int) + (m : Int) - 1) from ((free_eval hF (by kernel_rfl)).trans rfl)), hK⟩)
          | 3, ho =>
            obtain rfl := Option.some.inj ho
            exact rel_free ho rfl (wp_mv1 (.tmp 23) (.inl rfl) ⟨_, rfl, fun _ _ => (show a'.eval (.tmp 23) = .int .i64 ((h : Int)) from ((free_eval hF (by kernel_rfl)).trans rfl)), hK⟩)
          | 4, ho =>
            obtain rfl := Option.some.inj ho
            have hx : a'.eval (.tmp 160) = .int .i64 ((mid : Int) + (m : Int) - 1) := (dep_eval hD 2 (by kernel_rfl) rfl rfl)
            have hy : a'.eval (.tmp 161) = .int .i64 ((h : Int)) := (dep_eval hD 3 (by kernel_rfl) rfl rfl)
            exact rel_free ho rfl (wp_bin1 _ _ _ _ _ rfl _ _ (.int .i64 ((mid : Int) + (m : Int) - 1 - (h : Int))) hx hy (fun w => by kernel_rfl) (fun w => sub_i ((mid : Int) + (m : Int) - 1) ((h : Int)) (by omega) (by omega) w) ⟨_, rfl, fun _ _ => rfl, hK⟩)
          | 5, ho =>
            obtain rfl := Option.some.inj ho
            have hx : a'.eval (.tmp 159) = .slice (some ⟨g, 0, none⟩) n cap := (dep_eval hD 1 (by kernel_rfl) rfl rfl)
            have hy : a'.eval (.tmp 162) = .int .i64 ((mid : Int) + (m : Int) - 1 - (h : Int)) := (dep_eval hD 4 (by kernel_rfl) rfl rfl)
            exact rel_free ho rfl (wp_ia1 (.tmp 159) (.tmp 162) rfl hx hy (mid + m - 1 - h) (by omega) (by omega) ⟨_, rfl, fun _ _ => rfl, hK⟩)
          | 6, ho =>
            obtain rfl := Option.some.inj ho
            obtain ⟨e, he⟩ := hK.elem (mid + m - 1 - h) (by omega)
            exact rel_free ho rfl (wp_load1 56 (.tmp 163) rfl g ((mid + m - 1 - h) * 3) (encP e) _ (dep_eval hD 5 (by kernel_rfl) rfl rfl) he Tryz.underlying56 rfl (sizePm _ _ _) ⟨_, rfl, fun _ _ => ⟨e, rfl⟩, hK⟩)
          | 7, ho =>
            obtain rfl := Option.some.inj ho
            exact rel_free ho rfl (wp_mv1 (.tmp 0) (.inl rfl) ⟨_, rfl, fun _ _ => (show a'.eval (.tmp 0) = .slice (some ⟨g, 0, none⟩) n cap from ((free_eval hF (by kernel_rfl)).trans rfl)), hK⟩)
          | 8, ho =>
            obtain rfl := Option.some.inj ho
            exact rel_free ho rfl (wp_mv1 (.tmp 23) (.inl rfl) ⟨_, rfl, fun _ _ => (show a'.eval (.tmp 23) = .int .i64 ((h : Int)) from ((free_eval hF (by kernel_rfl)).trans rfl)), hK⟩)
          | 9, ho =>
            obtain rfl := Option.some.inj ho
            have hx : a'.eval (.tmp 165) = .slice (some ⟨g, 0, none⟩) n cap := (dep_eval hD 7 (by kernel_rfl) rfl rfl)
            have hy : a'.eval (.tmp 166) = .int .i64 ((h : Int)) := (dep_eval hD 8 (by kernel_rfl) rfl rfl)
            exact rel_free ho rfl (wp_ia1 (.tmp 165) (.tmp 166) rfl hx hy (h) (by omega) (by omega) ⟨_, rfl, fun _ _ => rfl, hK⟩)
          | 10, ho =>
            obtain rfl := Option.some.inj ho
            obtain ⟨e, he⟩ := hK.elem (h) (by omega)
            exact rel_free ho rfl (wp_load1 56 (.tmp 167) rfl g ((h) * 3) (encP e) _ (dep_eval hD 9 (by kernel_rfl) rfl rfl) he Tryz.underlying56 rfl (sizePm _ _ _) ⟨_, rfl, fun _ _ => ⟨e, rfl⟩, hK⟩)
          | 11, ho =>
            obtain rfl := Option.some.inj ho
            obtain ⟨e1, h1⟩ := (show ∃ e : PB, a'.eval (.tmp 164) = .agg (encP e).toArray from (dep_eval hD 6 (by kernel_rfl) rfl rfl))
            obtain ⟨e2, h2⟩ := (show ∃ e : PB, a'.eval (.tmp 168) = .agg (encP e).toArray from (dep_eval hD 10 (by kernel_rfl) rfl rfl))
            have hc : a'.eval (.tmp 158) = .func (.func 137) #[] #[] := (dep_eval hD 0 (by kernel_rfl) rfl rfl)
            exact rel_free ho rfl (wp_callv 158 _ _ rfl 137 hc #[.agg (encP e1).toArray, .agg (encP e2).toArray] (by simp only [List.map_toArray, List.map_cons, List.map_nil, h1, h2]) (enters_of Tryz.func137 (by kernel_rfl) rfl) ((cmp_b e1 e2 W).mono fun e W2 ⟨⟨z, he⟩, hb⟩ => ⟨_, he, _, rfl, (fun _ _ => ⟨z, rfl⟩), hK.call hb⟩))
          | 12, ho =>
            obtain rfl := Option.some.inj ho
            obtain ⟨z, hz⟩ := (show ∃ z : Int, a'.eval (.tmp 169) = .int .i64 z from (dep_eval hD 11 (by kernel_rfl) rfl rfl))
            exact rel_free ho rfl (wp_bin1 _ _ _ _ _ rfl _ _ (.bool (decide (z < 0))) hz rfl (fun w => by kernel_rfl) (fun w => lss_i z 0 w) ⟨_, rfl, fun _ _ => ⟨_, rfl⟩, hK⟩)
          | 13, ho =>
            obtain rfl := Option.some.inj ho
            obtain ⟨b, hb⟩ := (show ∃ b : Bool, a'.eval (.tmp 170) = .bool b from (dep_eval hD 12 (by kernel_rfl) rfl rfl))
            exact rel_free ho rfl (wp_not1 _ _ rfl _ hb ⟨_, rfl, fun _ _ => ⟨_, rfl⟩, hK⟩)
          | j + 14, ho => exact absurd ho (by simp)
        case hend =>
          intro vs W hlen hv hK
          obtain ⟨v0, v1, v2, v3, v4, v5, v6, v7, v8, v9, v10, v11, v12, v13, rfl⟩ : ∃ v0 v1 v2 v3 v4 v5 v6 v7 v8 v9 v10 v11 v12 v13, vs = [v0, v1, v2, v3, v4, v5, v6, v7, v8, v9, v10, v11, v12, v13] := by
            match vs, hlen with
            | [v0, v1, v2, v3, v4, v5, v6, v7, v8, v9, v10, v11, v12, v13], _ => exact ⟨_, _, _, _, _, _, _, _, _, _, _, _, _, _, rfl⟩
          obtain ⟨bz, rfl⟩ : ∃ b : Bool, v13 = .bool b := hv 13 _ _ v13 rfl rfl rfl
          have SK := kd hK
          clear hv hlen hK SS
          simp only [putL, Act.put, List.setIfInBounds_toArray, List.set_cons_zero, List.set_cons_succ]
          cases bz with
          | true =>
            have r4 : IntKind.i64.wrap ((h : Int) + 1) = (h : Int) + 1 := by rw [IntKind.wrap_i64]; omega
            go_wp2_with fail
            go_roundw
            case rel => exact ⟨h + 1, j, by omega, by omega, by omega, by go_num, rfl, SK⟩
            case measure => simp [intOf]; omega
          | false =>
            go_wp2_with fail
            go_roundw
            case rel => exact ⟨i, h, by omega, by omega, by omega, rfl, rfl, SK⟩
            case measure => simp [intOf]; omega
      · have q2 : decide ((i : Int) < (j : Int)) = false := by simp; omega
        have q3 : ¬ (i : Int) < (j : Int) := by omega
        obtain ⟨s, hs⟩ : ∃ s, s = i := ⟨_, rfl⟩
        subst hs
        have r5 : IntKind.i64.wrap ((mid : Int) + (m : Int) - (s : Int)) = (mid : Int) + (m : Int) - (s : Int) := by rw [IntKind.wrap_i64]; omega
        go_upto_region 39 with (fail)
        obtain ⟨e, he⟩ : ∃ e : Nat, e + s = mid + m := ⟨mid + m - s, by omega⟩
        rw [show (mid : Int) + (m : Int) - (s : Int) = (e : Int) by omega]
        clear q2 q3 r5
        go_cut [185] (fun v wx => v = .bool (decide (s < m) && decide (m < e)) ∧ Hid (KR w0 g n wx))
        case first => as_aux_lemma =>
          by_cases c1 : s < m
          · obtain ⟨x1, x2⟩ := dlt c1
            by_cases c2 : m < e
            · obtain ⟨y1, y2⟩ := dlt c2
              go_wp2_with fail
              go_meet
              exact ⟨by simp [c1, c2], SS⟩
            · obtain ⟨y1, y2⟩ := dnl c2
              go_wp2_with fail
              go_meet
              exact ⟨by simp [c1, c2], SS⟩
          · obtain ⟨x1, x2⟩ := dnl c1
            go_wp2_with fail
            go_meet
            exact ⟨by simp [c1], SS⟩
        case rest =>
        obtain ⟨rfl, S0a⟩ := hcut
        clear SS
        rename_i KK hKK
        refine hKK _ _ ?_
        clear hKK KK
        go_cut [186] (fun _ wx => Hid (KR w0 g n wx))
        case first => as_aux_lemma =>
          cases hb : (decide (s < m) && decide (m < e)) with
          | true =>
            obtain ⟨c1, c2⟩ : s < m ∧ m < e := by simpa using hb
            go_wp2_with fail
            refine (rot_any w0 _ g n cap S0a.out s m e (by omega) (by omega) (by omega) hn).mono ?_
            rintro _ wz ⟨rfl, hz⟩
            have SZ := kd hz
            clear hz
            go_wp2_with fail
            go_meet
            exact SZ
          | false =>
            go_wp2_with fail
            go_meet
            exact S0a
        case rest =>
        have S0b := hcut
        clear S0a hcut
        go_upto_region 41 with (fail)
        go_cut [199] (fun v wx => v = .bool (decide (a < s) && decide (s < mid)) ∧ Hid (KR w0 g n wx))
        case first => as_aux_lemma =>
          by_cases c1 : a < s
          · obtain ⟨x1, x2⟩ := dlt c1
            by_cases c2 : s < mid
            · obtain ⟨y1, y2⟩ := dlt c2
              go_wp2_with fail
              go_meet
              exact ⟨by simp [c1, c2], S0b⟩
            · obtain ⟨y1, y2⟩ := dnl c2
              go_wp2_with fail
              go_meet
              exact ⟨by simp [c1, c2], S0b⟩
          · obtain ⟨x1, x2⟩ := dnl c1
            go_wp2_with fail
            go_meet
            exact ⟨by simp [c1], S0b⟩
        case rest =>
        obtain ⟨rfl, S1a⟩ := hcut
        clear S0b
        rename_i KK hKK
        refine hKK _ _ ?_
        clear hKK KK
        go_cut [200] (fun _ wx => Hid (KR w0 g n wx))
        case first => as_aux_lemma =>
          cases hb : (decide (a < s) && decide (s < mid)) with
          | true =>
            obtain ⟨c1, c2⟩ : a < s ∧ s < mid := by simpa using hb
            go_wp2_with fail
            refine (IH.out _ S1a.out a s mid (by omega) (by omega) (by omega) (by omega)).mono ?_
            rintro _ wz ⟨rfl, hz⟩
            have SZ := kd hz
            clear hz
            go_wp2_with fail
            go_meet
            exact SZ
          | false =>
            go_wp2_with fail
            go_meet
            exact S1a
        case rest =>
        have S1b := hcut
        clear S1a hcut
        go_upto_region 43 with (fail)
        go_cut [213] (fun v wx => v = .bool (decide (mid < e) && decide (e < b)) ∧ Hid (KR w0 g n wx))
        case first => as_aux_lemma =>
          by_cases c1 : mid < e
          · obtain ⟨x1, x2⟩ := dlt c1
            by_cases c2 : e < b
            · obtain ⟨y1, y2⟩ := dlt c2
              go_wp2_with fail
              go_meet
              exact ⟨by simp [c1, c2], S1b⟩
            · obtain ⟨y1, y2⟩ := dnl c2
              go_wp2_with fail
              go_meet
              exact ⟨by simp [c1, c2], S1b⟩
          · obtain ⟨x1, x2⟩ := dnl c1
            go_wp2_with fail
            go_meet
            exact ⟨by simp [c1], S1b⟩
        case rest =>
        obtain ⟨rfl, S2a⟩ := hcut
        clear S1b
        rename_i KK hKK
        refine hKK _ _ ?_
        clear hKK KK
        cases hb : (decide (mid < e) && decide (e < b)) with
          | true =>
            obtain ⟨c1, c2⟩ : mid < e ∧ e < b := by simpa using hb
            go_wp2_with fail
            refine (IH.out _ S2a.out mid e b (by omega) (by omega) (by omega) (by omega)).mono ?_
            rintro _ wz ⟨rfl, hz⟩
            have SZ := kd hz
            clear hz
            go_wp2_with fail
            first
              | (go_end0; exact ⟨rfl, SZ.out⟩)
              | (refine bodyPost_ret (results_none rfl _ _ _) rfl ?_; exact ⟨rfl, SZ.out⟩)
          | false =>
            go_wp2_with fail
            first
              | (go_end0; exact ⟨rfl, S2a.out⟩)
              | (refine bodyPost_ret (results_none rfl _ _ _) rfl ?_; exact ⟨rfl, S2a.out⟩)

theorem SV.kr {w wr : World} {g n cap : Nat} {d : Array PB} (h : SV w g n cap d wr) : KR w g n wr := by
  obtain ⟨cur, h1, h2, h3, h4, h5, h6⟩ := h.row
  have hn := h.s
  refine ⟨h.x.bw, h2, cur.toList, ?_, ?_, fun i hi => ⟨d[i]!, ?_⟩⟩
  · unfold Row; rw [Array.toArray_toList]; exact h1
  · rw [Array.length_toList, h5]; exact Nat.mul_le_mul_right 3 h3
  · have key : ∀ k, k < 3 → cur.toList[i * 3 + k]? = some (encP d[i]!)[k]! := fun k hk => by
      have e := flat_get d (t := i * 3 + k) (by omega)
      rw [← h6, List.getElem?_take, if_pos (by omega), show (i * 3 + k) / 3 = i by omega, show (i * 3 + k) % 3 = k by omega] at e
      exact e
    exact ⟨key 0 (by omega), key 1 (by omega), key 2 (by omega)⟩
theorem stable2_any (w wr : World) (g n cap : Nat) (d : Array PB) (H : SV w g n cap d wr) (h20 : 20 < n) (h40 : n ≤ 40) :
    Calls Tryz.prog 172 #[.slice (some ⟨g, 0, none⟩) n cap, .int .i64 n, .func (.func 137) #[] #[]] wr fun e w2 => e = .returned (.tuple #[]) ∧ KR w g n w2 := by
  have HS := kd (show ∃ d, SV w g n cap d wr from ⟨d, H⟩)
  have IN := kd (fun wx (h : ∃ d, SV w g n cap d wx) (a b : Nat) (hab : a ≤ b) (hb : b ≤ n) (a' b' : Int) (ea : a' = a) (eb : b' = b) => (show Calls Tryz.prog 197 #[.slice (some ⟨g, 0, none⟩) n cap, .int .i64 a', .int .i64 b', .func (.func 137) #[] #[]] wx fun e w2 => e = .returned (.tuple #[]) ∧ ∃ d, SV w g n cap d w2 from by
    subst ea; subst eb
    obtain ⟨d, hd⟩ := h
    exact (insort_any w wx g n cap a b d hd hab hb (by omega)).mono fun e w2 h => ⟨h.1, _, h.2⟩))
  have SY := kd (fun wx (S : KR w g n wx) (a m b : Nat) (ha : a < m) (hm : m < b) (hbn : b ≤ n) (a' m' b' : Int) (ea : a' = a) (em : m' = m) (eb : b' = b) => (show Calls Tryz.prog 198 #[.slice (some ⟨g, 0, none⟩) n cap, .int .i64 a', .int .i64 m', .int .i64 b', .func (.func 137) #[] #[]] wx fun e w' => e = .returned (.tuple #[]) ∧ KR w g n w' from by
    subst ea; subst em; subst eb
    exact sym_any w g n cap (by omega) (b - a) wx S a m b ha hm hbn (Nat.le_refl _)))
  clear H
  go_enter Tryz.func172, Tryz.ntmps172
  go_wp2_with fail
  go_loopw [7, 8] (fun v7 v8 wx => ∃ a : Nat, a ≤ n ∧ v7 = .int .i64 a ∧ v8 = .int .i64 ((a : Int) + 20) ∧ Hid (∃ d, SV w g n cap d wx)) (fun v _ _ => 60 - (intOf v).toNat)
  case atStart => exact ⟨0, by omega, rfl, rfl, HS⟩
  case round =>
    clear HS
    obtain ⟨a, ha, rfl, rfl, HS⟩ := hrel
    by_cases hlt : a + 20 ≤ n
    · have q1 : decide ((a : Int) + 20 ≤ (n : Int)) = true := by simp; omega
      have q2 : (a : Int) + 20 ≤ (n : Int) := by omega
      have r1 : IntKind.i64.wrap ((a : Int) + 20 + 20) = (a : Int) + 20 + 20 := by rw [IntKind.wrap_i64]; omega
      go_wp2_with fail
      refine (IN.out _ HS.out a (a + 20) (by omega) hlt _ _ (by omega) (by omega)).mono ?_
      rintro _ w3 ⟨rfl, h3⟩
      have H3 := kd h3
      clear h3 HS
      go_wp2_with fail
      go_roundw
      case rel => exact ⟨a + 20, hlt, congrArg (Value.int .i64) (by omega), congrArg (Value.int .i64) (by omega), H3⟩
      case measure => simp [intOf]; omega
    · have q1 : decide ((a : Int) + 20 ≤ (n : Int)) = false := by simp; omega
      have q2 : ¬ (a : Int) + 20 ≤ (n : Int) := by omega
      go_wp2_with fail
      refine (IN.out _ HS.out a n ha (Nat.le_refl _) _ _ (by omega) (by omega)).mono ?_
      rintro _ w3 ⟨rfl, h3⟩
      have H3 := kd (show KR w g n w3 from h3.elim fun _ h => h.kr)
      clear h3 HS q1 q2 IN
      go_wp2_with fail
      go_loopw [6, 7, 8, 9] (fun v6 _ _ _ wx => (v6 = .int .i64 20 ∨ v6 = .int .i64 40) ∧ Hid (KR w g n wx)) (fun v6 _ _ _ _ => 40 - (intOf v6).toNat)
      case atStart => exact ⟨.inl rfl, H3⟩
      case round =>
        clear H3
        obtain ⟨hv, H3⟩ := hrel
        rcases hv with rfl | rfl
        · have p1 : decide ((20 : Int) < (n : Int)) = true := by simp; omega
          have p2 : (20 : Int) < (n : Int) := by omega
          go_wp2_with fail
          go_loopw [7, 8] (fun v7 v8 wx => ((v7 = .int .i64 0 ∧ v8 = .int .i64 40) ∨ (v7 = .int .i64 40 ∧ v8 = .int .i64 80)) ∧ Hid (KR w g n wx)) (fun v _ _ => 60 - (intOf v).toNat)
          case atStart => exact ⟨.inl ⟨rfl, rfl⟩, H3⟩
          case round =>
            clear H3
            obtain ⟨hv, H3⟩ := hrel
            rcases hv with ⟨rfl, rfl⟩ | ⟨rfl, rfl⟩
            · by_cases hn : 40 ≤ n
              · have p3 : decide ((40 : Int) ≤ (n : Int)) = true := by simp; omega
                have p4 : (40 : Int) ≤ (n : Int) := by omega
                go_wp2_with fail
                refine (SY.out _ H3.out 0 20 40 (by omega) (by omega) hn _ _ _ (by omega) (by omega) (by omega)).mono ?_
                rintro _ w4 ⟨rfl, h4⟩
                have H4 := kd h4
                clear h4 H3
                go_wp2_with fail
                go_roundw
                case rel => exact ⟨.inr ⟨rfl, rfl⟩, H4⟩
                case measure => simp [intOf]
              · have p3 : decide ((40 : Int) ≤ (n : Int)) = false := by simp; omega
                have p4 : ¬ (40 : Int) ≤ (n : Int) := by omega
                go_wp2_with fail
                refine (SY.out _ H3.out 0 20 n (by omega) (by omega) (Nat.le_refl _) _ _ _ (by omega) (by omega) (by omega)).mono ?_
                rintro _ w4 ⟨rfl, h4⟩
                have H4 := kd h4
                clear h4 H3
                go_wp2_with fail
                go_roundw
                case rel => exact ⟨.inr rfl, H4⟩
                case measure => simp [intOf]
            · have p3 : decide ((80 : Int) ≤ (n : Int)) = false := by simp; omega
              have p4 : ¬ (80 : Int) ≤ (n : Int) := by omega
              have p5 : decide ((60 : Int) < (n : Int)) = false := by simp; omega
              have p6 : ¬ (60 : Int) < (n : Int) := by omega
              go_wp2_with fail
              go_roundw
              case rel => exact ⟨.inr rfl, H3⟩
              case measure => simp [intOf]
        · have p1 : decide ((40 : Int) < (n : Int)) = false := by simp; omega
          have p2 : ¬ (40 : Int) < (n : Int) := by omega
          go_wp2_with fail
          go_end0
          exact ⟨rfl, H3.out⟩
theorem sortst2_any (w wr : World) (g n cap : Nat) (d : Array PB) (H : SV w g n cap d wr) (h20 : 20 < n) (h40 : n ≤ 40) :
    Calls Tryz.prog 136 #[.slice (some ⟨g, 0, none⟩) n cap, .func (.func 137) #[] #[]] wr fun e w2 => e = .returned (.tuple #[]) ∧ KR w g n w2 := by
  have ST := kd (stable2_any w wr g n cap d H h20 h40)
  clear H
  go_enter Tryz.func136, Tryz.ntmps136
  go_wp2_with (go_at_call 172; refine ST.out.mono ?_; rintro e w3 ⟨rfl, h3⟩; have H3 := kd h3; clear h3)
  go_end0
  exact ⟨rfl, H3.out⟩
theorem sorted2_any (A : Option Addr) (n c : Nat) (l : List Pm) (w : World) (hn : l.length = n) (hA : Rds w w.heap.size A (pms l)) (h20 : 20 < n) (h40 : n ≤ 40) (hl : PmBy l) :
    Calls Tryz.prog 73 #[.slice A n c] w fun e w' => ∃ B k, e = .returned (.slice B n k) ∧ Below w.heap.size w w' := by
  have CL := kd (clonep_any A n c l w hn hA (fun h => by
    subst h
    exact absurd (hA (by rw [pms_len]; omega)) (by rintro ⟨b, o, e, _⟩; cases e)) (by omega))
  have HN := kd hn; have HL := kd hl
  clear hn hA hl
  go_enter Tryz.func73, Tryz.ntmps73
  go_wp2_with fail
  refine CL.out.mono ?_
  clear CL
  rintro e w1 ⟨v, rfl, hv⟩
  rcases hv.form with ⟨rfl, h0, h1⟩ | ⟨g, cap, rfl, _⟩
  · omega
  · have SS := kd (sortst2_any w w1 g n cap _ (sv_of HL.out HN.out hv) h20 h40)
    clear hv
    go_wp2_with fail
    refine SS.out.mono ?_
    rintro e w3 ⟨rfl, h2⟩
    have H2 := kd h2
    clear h2 SS
    go_wp2_with fail
    go_ret
    exact ⟨_, _, rfl, H2.out.bw⟩

theorem pprintbig_any (A : Option Addr) (n c : Nat) (w : World) (h : 16 < n) : Calls Tryz.prog 40 #[.slice A n c] w fun e w' => e = .returned (.tuple #[.string ⟨#[]⟩, .int .u8 2]) ∧ Below w.heap.size w w' := by
  have h2 : decide (16 < (n : Int)) = true := by simp; omega
  have h3 : 16 < (n : Int) := by omega
  go_enter Tryz.func40, Tryz.ntmps40
  go_wp2_with fail
  go_ret2
  exact ⟨rfl, Below.refl _ _⟩
theorem ppsN_nodup : ∀ {l sn : List Pm} {s : List Int}, ppsN l sn = some s → (l.map (·.n)).Nodup ∧ ∀ p ∈ l, p.n ∉ sn.map (·.n)
  | [], _, _, _ => ⟨List.nodup_nil, fun _ h => by cases h⟩
  | p :: r, sn, s, h => by
    rw [ppsN_cons] at h
    split at h
    · cases h
    rename_i h1
    cases h2 : pmV p with
    | none => rw [h2] at h; cases h
    | some t =>
    cases h3 : ppsN r (sn ++ [p]) with
    | none => rw [h2, h3] at h; cases h
    | some u =>
    obtain ⟨i1, i2⟩ := ppsN_nodup h3
    refine ⟨List.nodup_cons.2 ⟨fun hm => ?_, i1⟩, fun q hq => ?_⟩
    · obtain ⟨q, hq, e⟩ := List.mem_map.1 hm
      exact i2 q hq (by rw [List.map_append, List.mem_append]; exact .inr (by simp [e]))
    · rcases List.mem_cons.1 hq with rfl | hq
      · exact holdsL_no.1 (by simpa using h1)
      · intro hm
        exact i2 q hq (by rw [List.map_append, List.mem_append]; exact .inl hm)
theorem ppsL_nodup {l : List Pm} {s : List Int} (h : ppsL l = some s) : (l.map (·.n)).Nodup := by
  unfold ppsL at h
  split at h
  · cases h
  · exact (ppsN_nodup h).1
theorem ppsL_perm {l m : List Pm} (hp : m.Perm l) (ha : Asc m) : ppsL m = ppsL (sortPm l) := by
  by_cases hn : (l.map (·.n)).Nodup
  · rw [asc_sort hp ha hn]
  · have h1 : ppsL m = none := by
      cases h : ppsL m with
      | none => rfl
      | some s => exact absurd ((hp.map _).nodup_iff.1 (ppsL_nodup h)) hn
    have h2 : ppsL (sortPm l) = none := by
      cases h : ppsL (sortPm l) with
      | none => rfl
      | some s => exact absurd (((sort_perm l).map _).nodup_iff.1 (ppsL_nodup h)) hn
    rw [h1, h2]
def sumPm (l : List Pm) : Nat := (l.map fun p => p.n.length + p.v.length).sum
theorem pmV_sz {p : Pm} {t : List Int} (h : pmV p = some t) : t.length ≤ 2 * (p.n.length + p.v.length) + 4 := by
  obtain ⟨n, v, b⟩ := p
  unfold pmV at h
  have hq := quote_len v
  split at h
  · cases h
  · dsimp only at h ⊢
    split at h
    · split at h
      · injection h with h; subst h; simp; omega
      · cases h
    · split at h
      · injection h with h; subst h; simp; omega
      · split at h
        · injection h with h; subst h; simp; omega
        · cases h
theorem ppsN_sz : ∀ {l sn : List Pm} {s : List Int}, ppsN l sn = some s → s.length ≤ 2 * sumPm l + 4 * l.length
  | [], _, s, h => by
    unfold ppsN at h
    injection h with h
    subst h
    exact Nat.zero_le _
  | p :: r, sn, s, h => by
    rw [ppsN_cons] at h
    split at h
    · cases h
    cases h2 : pmV p with
    | none => rw [h2] at h; cases h
    | some t =>
    cases h3 : ppsN r (sn ++ [p]) with
    | none => rw [h2, h3] at h; cases h
    | some u =>
    rw [h2, h3] at h
    injection h with h
    subst h
    have i := ppsN_sz h3
    have j := pmV_sz h2
    unfold sumPm at i ⊢
    simp only [List.map_cons, List.sum_cons, List.length_cons, List.length_append]
    omega
theorem ppsL_sz {l : List Pm} {s : List Int} (h : ppsL l = some s) : s.length ≤ 2 * sumPm l + 64 := by
  unfold ppsL at h
  split at h
  · cases h
  · have := ppsN_sz h
    omega

def adV9 (a : Adr) (A1 A2 A3 : Option Addr) (c1 c2 c3 : Nat) : Value := .agg #[.string (strOfNums a.ds), .string (strOfNums a.u.sc), .string (strOfNums a.u.us), .string (strOfNums a.u.ho), .int .i64 a.u.po, .slice A1 a.u.ps.length c1, .slice A2 a.u.hs.length c2, .slice A3 a.ps.length c3]
structure AdG (w : World) (a : Adr) (A1 A2 A3 : Option Addr) (c1 c2 c3 : Nat) : Prop where
  r : RArg w a.u A1 A2 c1 c2
  d : By a.ds
  dl : a.ds.length ≤ 4000000
  p : Rds w w.heap.size A3 (pms a.ps)
  pl : ∀ p ∈ a.ps, pmSz p
  nil : A3 = none → a.ps.length = 0 ∧ c3 = 0
  c : a.ps.length ≤ c3
  n : a.ps.length ≤ 1000000
  s : sumPm a.ps ≤ 1048576
theorem AdG.step {w w' : World} {a : Adr} {A1 A2 A3 : Option Addr} {c1 c2 c3 : Nat} (h : AdG w a A1 A2 A3 c1 c2 c3) (hb : Below w.heap.size w w') : AdG w' a A1 A2 A3 c1 c2 c3 := { h with r := h.r.step hb, p := (h.p.below hb).up hb.size }
theorem sum_perm {l m : List Pm} (h : m.Perm l) : sumPm m = sumPm l := (h.map _).sum_nat
theorem printU_len {u : Uri} {t : List Int} (hb : UriBy u) (h2 : u.us.length ≤ 4000000) (h3 : u.ho.length ≤ 4000000) (s1 : ∀ p ∈ u.ps, pmSz p) (s2 : ∀ p ∈ u.hs, pmSz p) (h : printU u = some t) : t.length ≤ 900000000 := by
  unfold printU at h
  cases hn : normL u with
  | none => rw [hn] at h; cases h
  | some n =>
  rw [hn] at h
  obtain rfl : printN n = t := Option.some.inj h
  have HN := norm_ok hb hn
  obtain ⟨z1, z2, z3, z4⟩ := norm_sz hb hn h2 h3 s1 s2
  obtain ⟨sb, sl⟩ := sc_by HN
  obtain ⟨p0, p1⟩ := po_ok HN
  have pl := dec_len5 p0 p1
  have L1 := HN.ps.len
  have L2 := HN.hs.len
  have W1 := wrT_len 1 [59] (by decide) n.ps [59] (by decide) z3
  have W2 := wrT_len 2 [38] (by decide) n.hs [63] (by decide) z4
  have E := (escT_len 0 n.us).2
  by_cases ht : n.sc = TELT
  · rw [← print_tel HN ht, List.length_append, List.length_append]
    simp only [List.length_cons, List.length_nil]
    omega
  · rw [← print_sip HN ht]
    simp only [List.length_append, List.length_cons, List.length_nil]
    split <;> split <;> simp only [List.length_append, List.length_cons, List.length_nil] <;> omega
theorem sortpp_any (A : Option Addr) (n c : Nat) (l : List Pm) (w : World) (hA : Rds w w.heap.size A (pms l)) (hn : l.length = n) (hl : ∀ p ∈ l, pmSz p) (hnil : A = none → n = 0 ∧ c = 0) (h40 : n ≤ 40) (hG : GM w) (hP : PT w) :
    Calls Tryz.prog 73 #[.slice A n c] w fun e w' => ∃ v, e = .returned v ∧ Below w.heap.size w w' ∧ Calls Tryz.prog 40 #[v] w' (PriP w' (ppsL (sortPm l))) := by
  by_cases h20 : n ≤ 20
  · refine (sorted_any A n c l w hn hA hnil h20 (fun p hp => ⟨(hl p hp).1, (hl p hp).2.1⟩)).mono ?_
    rintro e w' ⟨v, m, rfl, X⟩
    refine ⟨v, rfl, X.x.bw, ?_⟩
    obtain ⟨A', c', rfl, h1, _, _, hR⟩ := X.x.capf
    have hm : m.length = n := X.p.length_eq.trans hn
    rw [← ppsL_perm X.p X.a]
    exact pprint_any A' m.length c' m w' hR rfl h1 (by omega) (fun p hp => hl p (X.p.mem_iff.1 hp)) (hG.below X.x.bw) (hP.below X.x.bw)
  · refine (sorted2_any A n c l w hn hA (by omega) h40 (fun p hp => ⟨(hl p hp).1, (hl p hp).2.1⟩)).mono ?_
    rintro e w' ⟨B, k, rfl, hb⟩
    refine ⟨_, rfl, hb, (pprintbig_any B n k w' (by omega)).mono fun e w3 h => ?_⟩
    have : ppsL (sortPm l) = none := by
      unfold ppsL
      rw [if_pos (by rw [sort_len]; omega)]
    exact PriP.bad this h.2 |> fun x => by rw [h.1]; exact x
theorem rsortpp_any (A : Option Addr) (n c : Nat) (l : List Pm) (w : World) (hA : Rds w w.heap.size A (pms l)) (hn : l.length = n) (hl : ∀ p ∈ l, pmSz p) (h40 : n ≤ 40) :
    Calls Tryz.prog 47 #[.slice A n c] w fun e w' => ∃ v, e = .returned v ∧ Below w.heap.size w w' ∧ Calls Tryz.prog 49 #[v] w' (PriP w' (ppsL (sortPm l))) := by
  refine (rsorted_any A n c l w hA hn (by omega) (fun p hp => (hl p hp).1)).mono ?_
  rintro e w' ⟨v, rfl, X⟩
  refine ⟨v, rfl, X.bw, ?_⟩
  obtain ⟨A', c', rfl, h1, _, _, hR⟩ := X.capf
  exact rpprint_any A' n c' (sortPm l) w' hR (by rw [sort_len, hn]) h1 (by omega) (fun p hp => hl p ((sort_perm l).mem_iff.1 hp))
theorem prAdr_no1 {a : Adr} (h : clean a.ds = false) : prAdr a = none := by unfold prAdr; rw [if_pos h]
theorem prAdr_no2 {a : Adr} (h : printU a.u = none) : prAdr a = none := by unfold prAdr; rw [h]; split <;> rfl
theorem prAdr_no3 {a : Adr} (h : ppsL (sortPm a.ps) = none) : prAdr a = none := by
  unfold prAdr
  rw [h]
  split
  · rfl
  · cases printU a.u <;> rfl
theorem prAdr_yes {a : Adr} {u s : List Int} (h : clean a.ds = true) (h1 : printU a.u = some u) (h2 : ppsL (sortPm a.ps) = some s) : prAdr a = some (adrT a.ds u s) := by
  unfold prAdr
  rw [if_neg (by rw [h]; decide), h1, h2]
theorem row_at {w : World} {b : Nat} {T : TypeId} {pre cs post : List Value} (h : Row w b T (pre ++ cs ++ post)) : w.rangeAt b pre.length cs := fun j v hv => by
  have hj : j < cs.length := (List.getElem?_eq_some_iff.1 hv).1
  rw [h.cell, List.append_assoc, List.getElem?_append_right (by omega), Nat.add_sub_cancel_left, List.getElem?_append_left hj, hv]
theorem adr_mid {w : World} {b : Nat} {T : TypeId} {x0 x1 x2 x3 x4 x5 x6 x7 : Value} (h : Row w b T [x0, x1, x2, x3, x4, x5, x6, x7]) : w.rangeAt b 1 [x1, x2, x3, x4, x5, x6] := row_at (pre := [x0]) (cs := [x1, x2, x3, x4, x5, x6]) (post := [x7]) h
theorem adr_t1 (u s : List Int) : (⟨#[60]⟩ : ByteArray) ++ strOfNums u ++ ⟨#[62]⟩ ++ strOfNums s = strOfNums (adrT [] u s) := by
  rw [show (⟨#[60]⟩ : ByteArray) = strOfNums [60] by rfl, show (⟨#[62]⟩ : ByteArray) = strOfNums [62] by rfl, str_append, str_append, str_append]
  unfold adrT
  simp
theorem adr_t2 {d : List Int} (u s : List Int) (h : d ≠ []) : strOfNums (quoteL d) ++ ⟨#[32, 60]⟩ ++ strOfNums u ++ ⟨#[62]⟩ ++ strOfNums s = strOfNums (adrT d u s) := by
  rw [show (⟨#[32, 60]⟩ : ByteArray) = strOfNums [32, 60] by rfl, show (⟨#[62]⟩ : ByteArray) = strOfNums [62] by rfl, str_append, str_append, str_append, str_append]
  unfold adrT
  rw [if_neg h]
  simp
theorem padr_any (a : Adr) (A1 A2 A3 : Option Addr) (c1 c2 c3 : Nat) (w : World) (H : AdG w a A1 A2 A3 c1 c2 c3) (h40 : a.ps.length ≤ 40) (hC : CLS w) (hG : GM w) (hP : PT w) :
    Calls Tryz.prog 45 #[adV9 a A1 A2 A3 c1 c2 c3] w (PriP w (prAdr a)) := by
  have B1 := kd ((Below.refl w.heap.size w).alloc (Nat.le_refl _) (.cells ([.string (strOfNums a.ds), .string (strOfNums a.u.sc), .string (strOfNums a.u.us), .string (strOfNums a.u.ho), .int .i64 a.u.po, .slice A1 a.u.ps.length c1, .slice A2 a.u.hs.length c2, .slice A3 a.ps.length c3] : List Value).toArray 38))
  have R1 := kd (Row.new w 38 [.string (strOfNums a.ds), .string (strOfNums a.u.sc), .string (strOfNums a.u.us), .string (strOfNums a.u.ho), .int .i64 a.u.po, .slice A1 a.u.ps.length c1, .slice A2 a.u.hs.length c2, .slice A3 a.ps.length c3])
  have HU := kd (fun w' (hb : Below w.heap.size w w') => H.step hb)
  have BAD := kd (fun w' h hb => PriP.bad (w := w) (w' := w') (R := prAdr a) h hb)
  have GOOD := kd (fun w' s h hb => PriP.good (w := w) (w' := w') (R := prAdr a) (s := s) h hb)
  have N1 := kd (fun h => prAdr_no1 (a := a) h)
  have N2 := kd (fun h => prAdr_no2 (a := a) h)
  have N3 := kd (fun h => prAdr_no3 (a := a) h)
  have YS := kd (fun u s h h1 h2 => prAdr_yes (a := a) (u := u) (s := s) h h1 h2)
  have SU := kd (fun t h => printU_len (t := t) H.r.a.by_ H.r.a.n2 H.r.a.n3 H.r.a.s1 H.r.a.s2 h)
  have SP := kd (fun s h => Nat.le_trans (ppsL_sz (l := sortPm a.ps) (s := s) h) (by rw [sum_perm (sort_perm a.ps)]; exact Nat.add_le_add_right (Nat.mul_le_mul_left 2 H.s) 64))
  have SQ := kd (Nat.le_trans (quote_len a.ds) (Nat.add_le_add_right (Nat.mul_le_mul_left 2 H.dl) 2))
  have DB := kd (byteL_str H.d)
  have DL := kd (show (strOfNums a.ds).size ≤ 4000000 by rw [num_size]; exact H.dl)
  have EB := kd (empty_beq a.ds)
  have T1 := kd (fun u s (h : a.ds = []) => show _ = strOfNums (adrT a.ds u s) from (adr_t1 u s).trans (by rw [h]))
  have T2 := kd (fun u s (h : a.ds ≠ []) => adr_t2 u s h)
  have HC := kd (fun w' (hb : Below w.heap.size w w') => hC.below hb); have HG := kd (fun w' (hb : Below w.heap.size w w') => hG.below hb); have HP := kd (fun w' (hb : Below w.heap.size w w') => hP.below hb)
  have QC := kd (fun w => quote_any (strOfNums a.ds) w DL.out)
  rw [DB.out] at QC
  have PU := kd (fun w' (hb : Below w.heap.size w w') => print_any a.u A1 A2 c1 c2 w' (HU.out w' hb).r.a (HC.out w' hb) (HG.out w' hb) (HP.out w' hb))
  have SO := kd (fun w' (hb : Below w.heap.size w w') => sortpp_any A3 _ c3 a.ps w' (HU.out w' hb).p rfl H.pl H.nil h40 (HG.out w' hb) (HP.out w' hb))
  generalize PriP w (prAdr a) = PP at *
  generalize prAdr a = R at *
  clear H hC hG hP HC HG HP DB
  unfold adV9
  go_enter Tryz.func45, Tryz.ntmps45
  go_upto_region 1 with (fail)
  generalize w.alloc (.cells #[.string (strOfNums a.ds), .string (strOfNums a.u.sc), .string (strOfNums a.u.us), .string (strOfNums a.u.ho), .int .i64 a.u.po, .slice A1 a.u.ps.length c1, .slice A2 a.u.hs.length c2, .slice A3 a.ps.length c3] 38) = w1 at *
  obtain ⟨b1, hbk⟩ : ∃ b, w.heap.size = b := ⟨_, rfl⟩
  rw [hbk] at R1 ⊢
  clear hbk
  have k0 : w1.cell? ⟨b1, 0, none⟩ = some (.string (strOfNums a.ds)) := R1.out.cell 0
  go_wp2_with fail
  refine (QC.out _).mono ?_
  rintro _ w2 ⟨rfl, hb2⟩
  have R2 := kd (R1.out.below hb2)
  have B2 := kd (bthen B1.out hb2)
  clear k0 hb2 R1 B1 QC
  cases hcl : clean a.ds with
  | false =>
    have N := kd (N1.out hcl)
    rw [quoteV_no hcl]
    go_wp2_with fail
    first | exact BAD.out _ (N.out) B2.out | (go_ret2; exact BAD.out _ (N.out) B2.out)
  | true =>
  have HCL := kd hcl
  rw [quoteV_yes hcl]
  clear hcl
  have G2 := kd (adr_mid R2.out)
  go_wp2_with (with_reducible refine wpList_load_mid rfl 32 (.tmp 17) rfl b1 1 rfl [.string (strOfNums a.u.sc), .string (strOfNums a.u.us), .string (strOfNums a.u.ho), .int .i64 a.u.po, .slice A1 a.u.ps.length c1, .slice A2 a.u.hs.length c2] _ G2.out Tryz.underlying32 rfl (sizeU _ _ _ _ _ _) ?_)
  refine (PU.out _ B2.out).mono ?_
  intro e w3 h3
  cases hpu : printU a.u with
  | none =>
    rw [hpu] at h3
    obtain ⟨hb3, rfl⟩ := h3
    have N := kd (N2.out hpu)
    have B3 := kd (bthen B2.out hb3)
    clear hb3
    go_wp2_with fail
    first | exact BAD.out _ (N.out) B3.out | (go_ret2; exact BAD.out _ (N.out) B3.out)
  | some u =>
  rw [hpu] at h3
  obtain ⟨hb3, rfl⟩ := h3
  have HPU := kd hpu
  have R3 := kd (R2.out.below hb3)
  have B3 := kd (bthen B2.out hb3)
  clear hb3 hpu R2 B2 G2 PU
  have k7 : w3.cell? ⟨b1, 7, none⟩ = some (.slice A3 a.ps.length c3) := R3.out.cell 7
  go_wp2_with fail
  refine (SO.out _ B3.out).mono ?_
  rintro _ w4 ⟨v, rfl, hb4, hpp⟩
  have PPC := kd hpp
  have R4 := kd (R3.out.below hb4)
  have B4 := kd (bthen B3.out hb4)
  clear k7 hb4 hpp R3 B3 SO
  go_wp2_with fail
  refine PPC.out.mono ?_
  intro e w5 h5
  cases hps : ppsL (sortPm a.ps) with
  | none =>
    rw [hps] at h5
    obtain ⟨hb5, rfl⟩ := h5
    have N := kd (N3.out hps)
    have B5 := kd (bthen B4.out hb5)
    clear hb5
    go_wp2_with fail
    first | exact BAD.out _ (N.out) B5.out | (go_ret2; exact BAD.out _ (N.out) B5.out)
  | some s =>
  rw [hps] at h5
  obtain ⟨hb5, rfl⟩ := h5
  have HPS := kd hps
  have R5 := kd (R4.out.below hb5)
  have B5 := kd (bthen B4.out hb5)
  clear hb5 hps R4 B4 PPC
  have k0 : w5.cell? ⟨b1, 0, none⟩ = some (.string (strOfNums a.ds)) := R5.out.cell 0
  have FF := kd (YS.out _ _ (HCL.out) (HPU.out) (HPS.out))
  have z1 := SU.out _ (HPU.out); have z2 := SP.out _ (HPS.out); have z3 := SQ.out
  have SZu := num_size u; have SZs := num_size s; have SZq := num_size (quoteL a.ds)
  clear SU SP SQ YS N1 N2 N3 HU BAD
  by_cases hds : a.ds = []
  ·
    have TT := kd (T1.out u s hds)
    have q0 : ((strOfNums a.ds).toList == []) = true := EB.out.trans (by rw [hds]; rfl)
    have c1 : ¬ (9223372036854775807 < 1 + (strOfNums u).size) := by rw [SZu]; omega
    have c2 : ¬ (9223372036854775807 < 1 + (strOfNums u).size + 1) := by rw [SZu]; omega
    have c3 : ¬ (9223372036854775807 < 1 + (strOfNums u).size + 1 + (strOfNums s).size) := by rw [SZu, SZs]; omega
    clear T1 T2 hds EB z1 z2 z3 SZu SZs SZq
    generalize strOfNums u = tu at *
    generalize strOfNums s = ts at *
    go_wp2_with fail
    first
      | (rw [TT.out]; exact GOOD.out _ _ FF.out B5.out)
      | (go_ret2; rw [TT.out]; exact GOOD.out _ _ FF.out B5.out)
  ·
    have TT := kd (T2.out u s hds)
    have q0 : ((strOfNums a.ds).toList == []) = false := EB.out.trans (List.isEmpty_eq_false_iff.2 hds)
    have c1 : ¬ (9223372036854775807 < (strOfNums (quoteL a.ds)).size + 2) := by rw [SZq]; omega
    have c2 : ¬ (9223372036854775807 < (strOfNums (quoteL a.ds)).size + 2 + (strOfNums u).size) := by rw [SZq, SZu]; omega
    have c3 : ¬ (9223372036854775807 < (strOfNums (quoteL a.ds)).size + 2 + (strOfNums u).size + 1) := by rw [SZq, SZu]; omega
    have c4 : ¬ (9223372036854775807 < (strOfNums (quoteL a.ds)).size + 2 + (strOfNums u).size + 1 + (strOfNums s).size) := by rw [SZq, SZu, SZs]; omega
    clear T1 T2 hds EB z1 z2 z3 SZu SZs SZq
    generalize strOfNums u = tu at *
    generalize strOfNums s = ts at *
    generalize strOfNums (quoteL a.ds) = tq at *
    go_wp2_with fail
    first
      | (rw [TT.out]; exact GOOD.out _ _ FF.out B5.out)
      | (go_ret2; rw [TT.out]; exact GOOD.out _ _ FF.out B5.out)
theorem rpadr_any (a : Adr) (A1 A2 A3 : Option Addr) (c1 c2 c3 : Nat) (w : World) (H : AdG w a A1 A2 A3 c1 c2 c3) (h40 : a.ps.length ≤ 40) :
    Calls Tryz.prog 46 #[adV9 a A1 A2 A3 c1 c2 c3] w (PriP w (prAdr a)) := by
  have B1 := kd ((Below.refl w.heap.size w).alloc (Nat.le_refl _) (.cells ([.string (strOfNums a.ds), .string (strOfNums a.u.sc), .string (strOfNums a.u.us), .string (strOfNums a.u.ho), .int .i64 a.u.po, .slice A1 a.u.ps.length c1, .slice A2 a.u.hs.length c2, .slice A3 a.ps.length c3] : List Value).toArray 38))
  have R1 := kd (Row.new w 38 [.string (strOfNums a.ds), .string (strOfNums a.u.sc), .string (strOfNums a.u.us), .string (strOfNums a.u.ho), .int .i64 a.u.po, .slice A1 a.u.ps.length c1, .slice A2 a.u.hs.length c2, .slice A3 a.ps.length c3])
  have HU := kd (fun w' (hb : Below w.heap.size w w') => H.step hb)
  have BAD := kd (fun w' h hb => PriP.bad (w := w) (w' := w') (R := prAdr a) h hb)
  have GOOD := kd (fun w' s h hb => PriP.good (w := w) (w' := w') (R := prAdr a) (s := s) h hb)
  have N1 := kd (fun h => prAdr_no1 (a := a) h)
  have N2 := kd (fun h => prAdr_no2 (a := a) h)
  have N3 := kd (fun h => prAdr_no3 (a := a) h)
  have YS := kd (fun u s h h1 h2 => prAdr_yes (a := a) (u := u) (s := s) h h1 h2)
  have SU := kd (fun t h => printU_len (t := t) H.r.a.by_ H.r.a.n2 H.r.a.n3 H.r.a.s1 H.r.a.s2 h)
  have SP := kd (fun s h => Nat.le_trans (ppsL_sz (l := sortPm a.ps) (s := s) h) (by rw [sum_perm (sort_perm a.ps)]; exact Nat.add_le_add_right (Nat.mul_le_mul_left 2 H.s) 64))
  have SQ := kd (Nat.le_trans (quote_len a.ds) (Nat.add_le_add_right (Nat.mul_le_mul_left 2 H.dl) 2))
  have DB := kd (byteL_str H.d)
  have DL := kd (show (strOfNums a.ds).size ≤ 4000000 by rw [num_size]; exact H.dl)
  have EB := kd (empty_beq a.ds)
  have T1 := kd (fun u s (h : a.ds = []) => show _ = strOfNums (adrT a.ds u s) from (adr_t1 u s).trans (by rw [h]))
  have T2 := kd (fun u s (h : a.ds ≠ []) => adr_t2 u s h)
  have QC := kd (fun w => refquote_any (strOfNums a.ds) w DL.out)
  rw [DB.out] at QC
  have PU := kd (fun w' (hb : Below w.heap.size w w') => rprint_any a.u A1 A2 c1 c2 w' (HU.out w' hb).r)
  unfold uS at PU
  have SO := kd (fun w' (hb : Below w.heap.size w w') => rsortpp_any A3 _ c3 a.ps w' (HU.out w' hb).p rfl H.pl h40)
  generalize PriP w (prAdr a) = PP at *
  generalize prAdr a = R at *
  clear H DB
  unfold adV9
  go_enter Tryz.func46, Tryz.ntmps46
  go_upto_region 1 with (fail)
  generalize w.alloc (.cells #[.string (strOfNums a.ds), .string (strOfNums a.u.sc), .string (strOfNums a.u.us), .string (strOfNums a.u.ho), .int .i64 a.u.po, .slice A1 a.u.ps.length c1, .slice A2 a.u.hs.length c2, .slice A3 a.ps.length c3] 38) = w1 at *
  obtain ⟨b1, hbk⟩ : ∃ b, w.heap.size = b := ⟨_, rfl⟩
  rw [hbk] at R1 ⊢
  clear hbk
  have G1 := kd (adr_mid R1.out)
  go_wp2_with (with_reducible refine wpList_load_mid rfl 32 (.tmp 11) rfl b1 1 rfl [.string (strOfNums a.u.sc), .string (strOfNums a.u.us), .string (strOfNums a.u.ho), .int .i64 a.u.po, .slice A1 a.u.ps.length c1, .slice A2 a.u.hs.length c2] _ G1.out Tryz.underlying32 rfl (sizeU _ _ _ _ _ _) ?_)
  refine (PU.out _ B1.out).mono ?_
  intro e w2 h2
  obtain ⟨ku, tu0, hu0, hb2, rfl⟩ : ∃ (k : Int) (t : List Int), ((k = 0 ∧ printU a.u = some t) ∨ (k = 2 ∧ printU a.u = none)) ∧ Below w1.heap.size w1 w2 ∧ e = .returned (.tuple #[.string (strOfNums t), .int .u8 k]) := by
    cases hpu : printU a.u with
    | none => rw [hpu] at h2; exact ⟨2, [], .inr ⟨rfl, rfl⟩, h2.1, h2.2⟩
    | some t => rw [hpu] at h2; exact ⟨0, t, .inl ⟨rfl, rfl⟩, h2.1, h2.2⟩
  have HPU := kd hu0
  have R2 := kd (R1.out.below hb2)
  have B2 := kd (bthen B1.out hb2)
  clear h2 hb2 hu0 R1 B1 G1 PU
  have k7 : w2.cell? ⟨b1, 7, none⟩ = some (.slice A3 a.ps.length c3) := R2.out.cell 7
  go_wp2_with fail
  refine (SO.out _ B2.out).mono ?_
  rintro _ w3 ⟨v, rfl, hb3, hpp⟩
  have PPC := kd hpp
  have R3 := kd (R2.out.below hb3)
  have B3 := kd (bthen B2.out hb3)
  clear k7 hb3 hpp R2 B2 SO
  go_wp2_with fail
  refine PPC.out.mono ?_
  intro e w4 h4
  obtain ⟨ks, ts0, hs0, hb4, rfl⟩ : ∃ (k : Int) (t : List Int), ((k = 0 ∧ ppsL (sortPm a.ps) = some t) ∨ (k = 2 ∧ ppsL (sortPm a.ps) = none)) ∧ Below w3.heap.size w3 w4 ∧ e = .returned (.tuple #[.string (strOfNums t), .int .u8 k]) := by
    cases hpu : ppsL (sortPm a.ps) with
    | none => rw [hpu] at h4; exact ⟨2, [], .inr ⟨rfl, rfl⟩, h4.1, h4.2⟩
    | some t => rw [hpu] at h4; exact ⟨0, t, .inl ⟨rfl, rfl⟩, h4.1, h4.2⟩
  have HPS := kd hs0
  have R4 := kd (R3.out.below hb4)
  have B4 := kd (bthen B3.out hb4)
  clear h4 hb4 hs0 R3 B3 PPC
  have k0 : w4.cell? ⟨b1, 0, none⟩ = some (.string (strOfNums a.ds)) := R4.out.cell 0
  go_wp2_with fail
  refine (QC.out _).mono ?_
  rintro _ w5 ⟨rfl, hb5⟩
  have R5 := kd (R4.out.below hb5)
  have B5 := kd (bthen B4.out hb5)
  clear k0 hb5 R4 B4 QC
  have k0 : w5.cell? ⟨b1, 0, none⟩ = some (.string (strOfNums a.ds)) := R5.out.cell 0
  obtain ⟨kq, tq0, hq0, hqv⟩ : ∃ (k : Int) (t : ByteArray), ((k = 0 ∧ clean a.ds = true ∧ t = strOfNums (quoteL a.ds)) ∨ (k = 5 ∧ clean a.ds = false)) ∧ quoteV a.ds = .tuple #[.string t, .int .u8 k] := by
    cases hcl : clean a.ds with
    | true => exact ⟨0, _, .inl ⟨rfl, rfl, rfl⟩, quoteV_yes hcl⟩
    | false => exact ⟨5, _, .inr ⟨rfl, rfl⟩, quoteV_no hcl⟩
  rw [hqv]
  clear hqv
  rcases HPU.out with ⟨rfl, hu1⟩ | ⟨rfl, hu1⟩
  · rcases HPS.out with ⟨rfl, hs1⟩ | ⟨rfl, hs1⟩
    · rcases hq0 with ⟨rfl, hc1, rfl⟩ | ⟨rfl, hc1⟩
      · have HU1 := kd hu1; have HS1 := kd hs1; have HC1 := kd hc1
        clear HPU HPS hu1 hs1 hc1
        have FF := kd (YS.out _ _ (HC1.out) (HU1.out) (HS1.out))
        have z1 := SU.out _ (HU1.out); have z2 := SP.out _ (HS1.out); have z3 := SQ.out
        have SZu := num_size tu0; have SZs := num_size ts0; have SZq := num_size (quoteL a.ds)
        clear SU SP SQ YS N1 N2 N3 HU BAD
        by_cases hds : a.ds = []
        ·
          have TT := kd (T1.out tu0 ts0 hds)
          have q0 : ((strOfNums a.ds).toList == []) = true := EB.out.trans (by rw [hds]; rfl)
          have c1 : ¬ (9223372036854775807 < 1 + (strOfNums tu0).size) := by rw [SZu]; omega
          have c2 : ¬ (9223372036854775807 < 1 + (strOfNums tu0).size + 1) := by rw [SZu]; omega
          have c3 : ¬ (9223372036854775807 < 1 + (strOfNums tu0).size + 1 + (strOfNums ts0).size) := by rw [SZu, SZs]; omega
          clear T1 T2 hds EB z1 z2 z3 SZu SZs SZq
          generalize strOfNums tu0 = tu at *
          generalize strOfNums ts0 = ts at *
          go_wp2_with fail
          first
            | (rw [TT.out]; exact GOOD.out _ _ FF.out B5.out)
            | (go_ret2; rw [TT.out]; exact GOOD.out _ _ FF.out B5.out)
        ·
          have TT := kd (T2.out tu0 ts0 hds)
          have q0 : ((strOfNums a.ds).toList == []) = false := EB.out.trans (List.isEmpty_eq_false_iff.2 hds)
          have c1 : ¬ (9223372036854775807 < (strOfNums (quoteL a.ds)).size + 2) := by rw [SZq]; omega
          have c2 : ¬ (9223372036854775807 < (strOfNums (quoteL a.ds)).size + 2 + (strOfNums tu0).size) := by rw [SZq, SZu]; omega
          have c3 : ¬ (9223372036854775807 < (strOfNums (quoteL a.ds)).size + 2 + (strOfNums tu0).size + 1) := by rw [SZq, SZu]; omega
          have c4 : ¬ (9223372036854775807 < (strOfNums (quoteL a.ds)).size + 2 + (strOfNums tu0).size + 1 + (strOfNums ts0).size) := by rw [SZq, SZu, SZs]; omega
          clear T1 T2 hds EB z1 z2 z3 SZu SZs SZq
          generalize strOfNums tu0 = tu at *
          generalize strOfNums ts0 = ts at *
          generalize strOfNums (quoteL a.ds) = tq at *
          go_wp2_with fail
          first
            | (rw [TT.out]; exact GOOD.out _ _ FF.out B5.out)
            | (go_ret2; rw [TT.out]; exact GOOD.out _ _ FF.out B5.out)
      · have N := kd (N1.out hc1)
        clear HPU HPS hu1 hs1 hc1
        go_wp2_with fail
        first | exact BAD.out _ (N.out) B5.out | (go_ret2; exact BAD.out _ (N.out) B5.out)
    · have N := kd (N3.out hs1)
      clear HPU HPS hu1 hs1 hq0
      go_wp2_with fail
      first | exact BAD.out _ (N.out) B5.out | (go_ret2; exact BAD.out _ (N.out) B5.out)
  · have N := kd (N2.out hu1)
    clear HPU HPS hu1 hq0
    go_wp2_with fail
    first | exact BAD.out _ (N.out) B5.out | (go_ret2; exact BAD.out _ (N.out) B5.out)
end Go.Proofs.YthfonniieaiocaaGreatDoor
