/- A drawn region with guards: one assertion for each operation. Contract: the law's works. -/
import Derived.Test.YtcnkjgjimcddiaaGreatDoorEr
namespace Go.Proofs.YtcnkjgjimcddiaaGreatDoor
open Go.RowKit

section
variable {P : Program} {ops : Array Oper} {Q : Exit → Act → World → Prop}
theorem yielded_of {tmps : Array Value} {g : Nat} {og : Oper} {d : Tmp} {b : Bool} (ho : ops[g]? = some og) (hd : og.dst = some d) (h : tmps.getD d undef = .bool b) : yielded ops tmps g = some b := by
  unfold yielded
  rw [ho]
  show (match (Option.bind (some og) (·.dst)).bind (tmps[·]?) with | some (.bool b) => some b | _ => none) = some b
  rw [Option.bind_some, hd, Option.bind_some]
  rw [Array.getD_eq_getD_getElem?] at h
  cases hq : tmps[d]? with
  | none => rw [hq] at h; cases h
  | some v =>
    rw [hq] at h
    have hv : v = .bool b := h
    subst hv
    rfl
theorem rel_free {i : Nat} {o : Oper} {a : Act} {w : World} {K : Act → World → Prop} (ho : ops[i]? = some o) (hg : o.guard = none) (h : o.wp P a w K Q) : wpOp P ops Q i K a w := wpOp_face ho hg h
theorem rel_guard {i g : Nat} {o og : Oper} {d : Tmp} {b : Bool} {a : Act} {w : World} {K : Act → World → Prop} (ho : ops[i]? = some o) (hg : o.guard = some (g, b)) (hog : ops[g]? = some og) (hd : og.dst = some d) (hv : a.eval (.tmp d) = .bool b) (h : o.wp P a w K Q) : wpOp P ops Q i K a w := by
  unfold wpOp
  rw [ho]
  dsimp only
  rw [if_pos (by simp [Region.wanted, hg, yielded_of hog hd hv])]
  exact Or.inl h
theorem region_all (hm : P.follows .mixedOrders = true) (hA : ahead ops = true) (A : Nat → World → Value → Prop) {id : Nat} {a : Act} {w : World} (hS : ssa ops a.tmps.size = true)
    (hAm : ∀ i v W W', Below W.heap.size W W' → A i W v → A i W' v)
    (hstep : ∀ (i : Nat) (o : Oper), ops[i]? = some o → ∀ a' W, Below w.heap.size w W → Fr ops a a' → DepsOk ops A o a' W → wpOp P ops Q i (fun a2 W2 => ∃ v, a2 = a'.put o.dst v ∧ Below W.heap.size W W2 ∧ (∀ d, o.dst = some d → A i W2 v)) a' W)
    (hend : ∀ a' W, Fr ops a a' → Below w.heap.size w W → (∀ (i : Nat) (o : Oper) (d : Tmp), ops[i]? = some o → o.dst = some d → A i W (a'.tmps.getD d undef)) → Q .normal a' W) :
    (Code.region id ops true).wp P Q a w := by
  refine region_dag hm hA A (fun _ _ W => Below w.heap.size w W) hS (Below.refl _ _).drew (fun L a' W i o hI ho hL hdep => ?_) (fun L a' W hfr hall hL hB => hend a' W hfr hB hall)
  refine wpOp_mono (fun a2 W2 h => ?_) (hstep i o ho a' W hI.2.2 hI.1 (fun e he hb oj d h1 h2 => hI.2.1 e.on oj d h1 h2 (hdep e he hb)))
  obtain ⟨v, rfl, hb, hv⟩ := h
  exact ⟨v, rfl, fun j u h => hAm j u _ _ hb h, hv, bthen hI.2.2 hb⟩
end
section
variable {P : Program} {o : Oper} {a : Act} {w : World} {next : Act → World → Prop} {Q : Exit → Act → World → Prop}
theorem wp_fa1 (T : TypeId) (x : Operand) (k : Nat) (ho : o.op = .fieldAddr T x k) (b off : Nat) (hx : a.eval x = .pointer (some ⟨b, 0, none⟩)) (hr : ∀ w : World, (Instr.fieldAt T (.pointer (some ⟨b, 0, none⟩)) k).run P w = .ok (.pointer (some ⟨b, off, none⟩)) w)
    (hn : next (a.put o.dst (.pointer (some ⟨b, off, none⟩))) w) : o.wp P a w next Q :=
  wp_value _ (by unfold execOp; simp only [ho, hx, Sem.run_bind, hr, Result.andThen_ok]; rfl) hn
theorem wp_pick1 (x y z : Operand) (ho : o.op = .pick x y z) (hx : a.eval x = .bool true) (hn : next (a.put o.dst (a.eval y)) w) : o.wp P a w next Q :=
  wp_value _ (by unfold execOp; simp only [ho, hx]; rfl) hn
theorem wp_bin1 (op : BinOp) (T : TypeId) (x y : Operand) (rt : TypeId) (ho : o.op = .binOp op T x y rt) (p q r : Value) (hx : a.eval x = p) (hy : a.eval y = q) (hg : ∀ w : World, (eqGuard op T x y p q).run P w = .ok () w) (hr : ∀ w : World, (binOp op T p q).run P w = .ok r w) (hn : next (a.put o.dst r) w) : o.wp P a w next Q :=
  wp_value _ (by unfold execOp; simp only [ho, hx, hy, Sem.run_bind, hg, hr, Result.andThen_ok]; rfl) hn
theorem wp_not1 (T : TypeId) (x : Operand) (ho : o.op = .unOp .not T x) (b : Bool) (hx : a.eval x = .bool b) (hn : next (a.put o.dst (.bool !b)) w) : o.wp P a w next Q :=
  wp_value _ (by unfold execOp; simp only [ho, hx, Sem.run_bind, Op.unary, Sem.run_pure, Result.andThen_ok]) hn
theorem wp_ldc1 (ty : TypeId) (x : Operand) (ho : o.op = .load ty x) (b off : Nat) (v : Value) (hx : a.eval x = .pointer (some ⟨b, off, none⟩)) (hc : w.cell? ⟨b, off, none⟩ = some v) (d : TypeDesc) (hu : P.underlying ty = some d) (hd : d.isRow = false)
    (hn : next (a.put o.dst v) w) : o.wp P a w next Q :=
  wp_value v (by
    have hagg : (isAgg ty).run P w = .ok false w := by
      unfold isAgg
      rw [Sem.run_bind, run_underlying hu w]
      cases d <;> simp_all
    have hl : (loadVar ty ⟨b, off, none⟩).run P w = .ok v w := by
      simp [loadVar, Sem.run_bind, hagg, hc]
    unfold execOp
    simp only [ho, hx, Instr.loadAt, Instr.sureAddr, Sem.run_bind, Sem.run_pure, Result.andThen_ok, hl]) hn
end
end Go.Proofs.YtcnkjgjimcddiaaGreatDoor
namespace Go.Proofs.YtcnkjgjimcddiaaGreatDoor
open Go.RowKit

def WA (b4 b6 : Nat) (j : Nat) (W : World) (v : Value) : Prop := (([
  fun _ v => v = (.agg #[.string EXPN, .string V1800]),
  fun _ v => v = (.agg #[.string SUPN, .string VTIM]),
  fun W v => ∃ b, v = .slice (some ⟨b, 0, none⟩) 2 2 ∧ Row W b 45 [.string EXPN, .string V1800, .string SUPN, .string VTIM],
  fun W v => ∃ b, v = .agg #[.string INV, .string SIPB, .int .i64 0, .string ⟨#[]⟩, .slice (some ⟨b, 0, none⟩) 2 2, .slice none 0 0] ∧ Row W b 45 [.string EXPN, .string V1800, .string SUPN, .string VTIM],
  fun _ v => v = (.agg #[.int .i64 0, .int .i64 0, .int .i64 1800, .bool true]),
  fun _ v => v = (.bool true),
  fun _ v => v = (.bool true),
  fun _ v => v = (.agg #[.string INV, .string SIPB, .int .i64 0, .string ⟨#[]⟩, .slice none 0 0, .slice none 0 0]),
  fun _ v => v = (.agg #[.int .i64 0, .int .i64 0, .int .i64 0, .bool false]),
  fun _ v => v = (.bool true),
  fun _ v => v = (.bool true),
  fun _ v => v = (.bool true),
  fun _ v => v = (.int .u8 0),
  fun _ v => v = (.bool true),
  fun _ v => v = (.bool true),
  fun _ v => v = (.bool true),
  fun _ v => v = (.int .u8 0),
  fun _ v => v = (.bool true),
  fun _ v => v = (.bool true),
  fun _ v => v = (.bool true),
  fun _ v => v = (.pointer (some ⟨b4, 1, none⟩)),
  fun _ v => v = (.bool true),
  fun _ v => v = (.bool true),
  fun _ v => v = (.bool true),
  fun _ v => v = (.pointer (some ⟨b6, 1, none⟩)),
  fun _ v => v = (.bool false),
  fun _ v => v = (.bool true),
  fun _ v => v = (.bool true),
  fun _ v => v = (.bool true),
  fun _ v => v = (.int .i64 905000),
  fun _ v => v = (.bool true),
  fun _ v => v = (.bool true),
  fun _ v => v = (.bool true),
  fun _ v => v = (.bool true),
  fun _ v => v = (.bool true),
  fun _ v => v = (.bool true),
  fun _ v => v = (.int .i64 1773000),
  fun _ v => v = (.bool true),
  fun _ v => v = (.bool true),
  fun _ v => v = (.bool true),
  fun _ v => v = (.bool true),
  fun _ v => v = (.bool true),
  fun _ v => v = (.bool true),
  fun _ v => v = (.int .u8 1),
  fun _ v => v = (.bool true),
  fun _ v => v = (.bool true),
  fun _ v => v = (.bool true),
  fun _ v => v = (.int .u8 0),
  fun _ v => v = (.bool true),
  fun _ v => v = (.bool true),
  fun _ v => v = (.bool true),
  fun _ v => v = (.int .i64 1773000),
  fun _ v => v = (.bool true),
  fun _ v => v = (.bool true),
  fun _ v => v = (.bool true),
  fun _ v => v = (.bool true),
  fun _ v => v = (.bool true),
  fun _ v => v = (.bool true),
  fun _ v => v = (.int .u8 0),
  fun _ v => v = (.bool true),
  fun _ v => v = (.bool true),
  fun _ v => v = (.bool true),
  fun _ v => v = (.int .u8 0),
  fun _ v => v = (.bool true),
  fun _ v => v = (.bool true),
  fun _ v => v = (.bool true),
  fun _ v => v = (.int .i64 1806000),
  fun _ v => v = (.bool true),
  fun _ v => v = (.bool true),
  fun _ v => v = (.bool true),
  fun _ v => v = (.bool true),
  fun _ v => v = (.bool true),
  fun _ v => v = (.bool true)] : List (World → Value → Prop)).getD j (fun _ _ => True)) W v
def Grows (f : World → Value → Prop) : Prop := ∀ W W' v, Below W.heap.size W W' → f W v → f W' v
theorem grows_eq (u : Value) : Grows (fun _ v => v = u) := fun _ _ _ _ h => h
theorem grows_row (F : Nat → Value) (T : TypeId) (vs : List Value) : Grows (fun W v => ∃ b, v = F b ∧ Row W b T vs) := fun _ _ _ hb ⟨b, h, hr⟩ => ⟨b, h, hr.below hb⟩
theorem grows_get {l : List (World → Value → Prop)} (hl : ∀ f ∈ l, Grows f) (j : Nat) : Grows (l.getD j (fun _ _ => True)) := by
  rw [List.getD_eq_getElem?_getD]
  cases h : l[j]? with
  | none => exact fun _ _ _ _ _ => trivial
  | some f => exact hl f (List.mem_of_getElem? h)
theorem WA_mono {b4 b6 j : Nat} {W W' : World} {v : Value} (hb : Below W.heap.size W W') (h : WA b4 b6 j W v) : WA b4 b6 j W' v := by
  refine grows_get (fun f hf => ?_) j W W' v hb h
  simp only [List.mem_cons, List.not_mem_nil, or_false] at hf
  rcases hf with rfl | rfl | rfl | rfl | rfl | rfl | rfl | rfl | rfl | rfl | rfl | rfl | rfl | rfl | rfl | rfl | rfl | rfl | rfl | rfl | rfl | rfl | rfl | rfl | rfl | rfl | rfl | rfl | rfl | rfl | rfl | rfl | rfl | rfl | rfl | rfl | rfl | rfl | rfl | rfl | rfl | rfl | rfl | rfl | rfl | rfl | rfl | rfl | rfl | rfl | rfl | rfl | rfl | rfl | rfl | rfl | rfl | rfl | rfl | rfl | rfl | rfl | rfl | rfl | rfl | rfl | rfl | rfl | rfl | rfl | rfl | rfl | rfl
  all_goals first
    | exact grows_eq _
    | exact grows_row (fun b => .slice (some ⟨b, 0, none⟩) 2 2) _ _
    | exact grows_row (fun b => .agg #[.string INV, .string SIPB, .int .i64 0, .string ⟨#[]⟩, .slice (some ⟨b, 0, none⟩) 2 2, .slice none 0 0]) _ _
theorem wp_bslice2 {o : Oper} {a : Act} {W : World} {next : Act → World → Prop} {Q : Exit → Act → World → Prop} (x y : Operand) (ho : o.op = .buildSlice 48 2 #[(0, x), (1, y)]) (p q r s : Value) (hx : a.eval x = .agg #[p, q]) (hy : a.eval y = .agg #[r, s])
    (hn : Row (W.alloc (.cells #[p, q, r, s] 45)) W.heap.size 45 [p, q, r, s] → next (a.put o.dst (.slice (some ⟨W.heap.size, 0, none⟩) 2 2)) (W.alloc (.cells #[p, q, r, s] 45))) : o.wp Tryz.prog a W next Q := by
  have hr : (execOp a.eval o).run Tryz.prog W = .ok (.value (.slice (some ⟨W.heap.size, 0, none⟩) 2 2)) (W.alloc (.cells #[p, q, r, s] 45)) := by
    unfold execOp
    rw [ho]
    dsimp only [List.map_toArray, List.map_cons, List.map_nil]
    simp only [List.map_toArray, List.map_cons, List.map_nil, hx, hy]
    kernel_rfl
  unfold Oper.wp
  rw [hr]
  exact hn (Row.new W 45 [p, q, r, s])
set_option maxRecDepth 100000 in
set_option maxHeartbeats 8000000 in
theorem works19_any (w : World) (hS : SC w) (hK : KD w) : Calls Tryz.prog 18 #[] w fun e w' => e = .returned (.bool true) ∧ Below w.heap.size w w' := by
  have HS := Lib.hid hS; have HK := Lib.hid hK
  clear hS hK
  have ST := Lib.hid (Mine.refl w)
  go_enter Tryz.func18, Tryz.ntmps18
  go_upto_region 2 with (fail)
  replace ST := Lib.hid ((show Mine w ((w.alloc (.cells #[.string EXPN, .string V1800] 45)).alloc (.cells #[.string SUPN, .string VTIM] 45)) ((w.heap.size + 1, 45, [.string SUPN, .string VTIM]) :: (w.heap.size, 45, [.string EXPN, .string V1800]) :: []) _ by
    have h := (ST.out.alloc 45 [.string EXPN, .string V1800]).alloc 45 [.string SUPN, .string VTIM]
    rw [World.size_alloc] at h
    exact h).rest.rest)
  generalize (w.alloc (.cells #[.string EXPN, .string V1800] 45)).alloc (.cells #[.string SUPN, .string VTIM] 45) = Y0 at *
  go_upto_region 3 with (fail)
  replace ST := Lib.hid ((show Mine w (Y0.alloc (.cells #[.int .i64 0, .int .i64 0, .int .i64 1800, .bool true] 25)) ((Y0.heap.size, 25, [.int .i64 0, .int .i64 0, .int .i64 1800, .bool true]) :: []) _ from ST.out.alloc 25 [.int .i64 0, .int .i64 0, .int .i64 1800, .bool true]).rest)
  generalize Y0.alloc (.cells #[.int .i64 0, .int .i64 0, .int .i64 1800, .bool true] 25) = Y1 at *
  generalize Y0.heap.size = b1 at *
  go_wp2_with (with_reducible refine wpList_loadR rfl 25 (.tmp 3) rfl (show Row _ b1 25 [.int .i64 0, .int .i64 0, .int .i64 1800, .bool true] from ST.out.fact (i := 0) rfl) rfl Tryz.underlying25 rfl (sizeAg _ _ _ _) ?_)
  refine (startt_any 0 0 1800 5000 true true _).mono ?_
  rintro e X2 ⟨rfl, hb⟩
  rw [show startV 0 1800 true true 5000 = .tuple #[.agg #[.int .i64 1800, .bool true, .int .i64 5000, .bool false, .bool false], .int .u8 0] from by kernel_rfl]
  replace ST := Lib.hid (ST.out.call hb)
  clear hb
  go_upto_region 4 with (fail)
  replace ST := Lib.hid ((show Mine w (X2.alloc (.cells #[.int .i64 1800, .bool true, .int .i64 5000, .bool false, .bool false] 23)) ((X2.heap.size, 23, [.int .i64 1800, .bool true, .int .i64 5000, .bool false, .bool false]) :: []) _ from ST.out.alloc 23 [.int .i64 1800, .bool true, .int .i64 5000, .bool false, .bool false]).rest)
  generalize X2.alloc (.cells #[.int .i64 1800, .bool true, .int .i64 5000, .bool false, .bool false] 23) = Y3 at *
  generalize X2.heap.size = b3 at *
  go_wp2_with (with_reducible refine wpList_loadR rfl 25 (.tmp 3) rfl (show Row _ b1 25 [.int .i64 0, .int .i64 0, .int .i64 1800, .bool true] from ST.out.fact (i := 1) rfl) rfl Tryz.underlying25 rfl (sizeAg _ _ _ _) ?_)
  refine (startt_any 0 0 1800 5000 true false _).mono ?_
  rintro e X4 ⟨rfl, hb⟩
  rw [show startV 0 1800 true false 5000 = .tuple #[.agg #[.int .i64 1800, .bool false, .int .i64 5000, .bool false, .bool false], .int .u8 0] from by kernel_rfl]
  replace ST := Lib.hid (ST.out.call hb)
  clear hb
  go_upto_region 5 with (fail)
  replace ST := Lib.hid ((show Mine w (X4.alloc (.cells #[.int .i64 1800, .bool false, .int .i64 5000, .bool false, .bool false] 23)) ((X4.heap.size, 23, [.int .i64 1800, .bool false, .int .i64 5000, .bool false, .bool false]) :: []) _ from ST.out.alloc 23 [.int .i64 1800, .bool false, .int .i64 5000, .bool false, .bool false]).rest)
  generalize X4.alloc (.cells #[.int .i64 1800, .bool false, .int .i64 5000, .bool false, .bool false] 23) = Y5 at *
  generalize X4.heap.size = b5 at *
  go_wp2_with (with_reducible refine wpList_loadR rfl 23 (.tmp 4) rfl (show Row _ b3 23 [.int .i64 1800, .bool true, .int .i64 5000, .bool false, .bool false] from ST.out.fact (i := 1) rfl) rfl Tryz.underlying23 rfl (sizeRf _ _ _ _ _) ?_)
  refine (nextt_any 1800 5000 true false false _).mono ?_
  rintro e X6 ⟨rfl, hb⟩
  rw [show nextV 1800 true 5000 false false = .tuple #[.int .i64 905000, .bool true] from by kernel_rfl]
  replace ST := Lib.hid (ST.out.call hb)
  clear hb
  go_wp2_with (with_reducible refine wpList_loadR rfl 23 (.tmp 6) rfl (show Row _ b5 23 [.int .i64 1800, .bool false, .int .i64 5000, .bool false, .bool false] from ST.out.fact (i := 0) rfl) rfl Tryz.underlying23 rfl (sizeRf _ _ _ _ _) ?_)
  refine (nextt_any 1800 5000 false false false _).mono ?_
  rintro e X7 ⟨rfl, hb⟩
  rw [show nextV 1800 false 5000 false false = .tuple #[.int .i64 1773000, .bool true] from by kernel_rfl]
  replace ST := Lib.hid (ST.out.call hb)
  clear hb
  go_wp2_with (with_reducible refine wpList_loadR rfl 23 (.tmp 4) rfl (show Row _ b3 23 [.int .i64 1800, .bool true, .int .i64 5000, .bool false, .bool false] from ST.out.fact (i := 1) rfl) rfl Tryz.underlying23 rfl (sizeRf _ _ _ _ _) ?_)
  refine (firet_any 1800 5000 905000 true false false _).mono ?_
  rintro e X8 ⟨rfl, hb⟩
  rw [show fireV 1800 true 5000 false false 905000 = .tuple #[.agg #[.int .i64 1800, .bool true, .int .i64 5000, .bool true, .bool false], .int .u8 1, .int .u8 0] from by kernel_rfl]
  replace ST := Lib.hid (ST.out.call hb)
  clear hb
  go_upto_region 8 with (fail)
  replace ST := Lib.hid ((show Mine w (X8.alloc (.cells #[.int .i64 1800, .bool true, .int .i64 5000, .bool true, .bool false] 23)) ((X8.heap.size, 23, [.int .i64 1800, .bool true, .int .i64 5000, .bool true, .bool false]) :: []) _ from ST.out.alloc 23 [.int .i64 1800, .bool true, .int .i64 5000, .bool true, .bool false]).rest)
  generalize X8.alloc (.cells #[.int .i64 1800, .bool true, .int .i64 5000, .bool true, .bool false] 23) = Y9 at *
  generalize X8.heap.size = b9 at *
  go_wp2_with (with_reducible refine wpList_loadR rfl 23 (.tmp 12) rfl (show Row _ b9 23 [.int .i64 1800, .bool true, .int .i64 5000, .bool true, .bool false] from ST.out.fact (i := 0) rfl) rfl Tryz.underlying23 rfl (sizeRf _ _ _ _ _) ?_)
  refine (nextt_any 1800 5000 true true false _).mono ?_
  rintro e X10 ⟨rfl, hb⟩
  rw [show nextV 1800 true 5000 true false = .tuple #[.int .i64 1773000, .bool true] from by kernel_rfl]
  replace ST := Lib.hid (ST.out.call hb)
  clear hb
  go_wp2_with (with_reducible refine wpList_loadR rfl 23 (.tmp 12) rfl (show Row _ b9 23 [.int .i64 1800, .bool true, .int .i64 5000, .bool true, .bool false] from ST.out.fact (i := 0) rfl) rfl Tryz.underlying23 rfl (sizeRf _ _ _ _ _) ?_)
  refine (donet_any 1800 5000 906000 true true false true _).mono ?_
  rintro e X11 ⟨rfl, hb⟩
  rw [show doneV 1800 true 5000 true false true 906000 = .tuple #[.agg #[.int .i64 1800, .bool true, .int .i64 906000, .bool false, .bool false], .int .u8 0, .int .u8 0] from by kernel_rfl]
  replace ST := Lib.hid (ST.out.call hb)
  clear hb
  go_upto_region 10 with (fail)
  replace ST := Lib.hid ((show Mine w (X11.alloc (.cells #[.int .i64 1800, .bool true, .int .i64 906000, .bool false, .bool false] 23)) ((X11.heap.size, 23, [.int .i64 1800, .bool true, .int .i64 906000, .bool false, .bool false]) :: []) _ from ST.out.alloc 23 [.int .i64 1800, .bool true, .int .i64 906000, .bool false, .bool false]).rest)
  generalize X11.alloc (.cells #[.int .i64 1800, .bool true, .int .i64 906000, .bool false, .bool false] 23) = Y12 at *
  generalize X11.heap.size = b12 at *
  go_wp2_with (with_reducible refine wpList_loadR rfl 23 (.tmp 17) rfl (show Row _ b12 23 [.int .i64 1800, .bool true, .int .i64 906000, .bool false, .bool false] from ST.out.fact (i := 0) rfl) rfl Tryz.underlying23 rfl (sizeRf _ _ _ _ _) ?_)
  refine (nextt_any 1800 906000 true false false _).mono ?_
  rintro e X13 ⟨rfl, hb⟩
  rw [show nextV 1800 true 906000 false false = .tuple #[.int .i64 1806000, .bool true] from by kernel_rfl]
  replace ST := Lib.hid (ST.out.call hb)
  clear hb
  go_wp2_with fail
  dsimp only [List.append]
  refine region_all (by kernel_rfl) (by kernel_rfl) (fun j W v => WA b3 b5 j W v) (by kernel_rfl) (fun j v W W' hb h => WA_mono hb h) ?hstep ?hend
  case hstep =>
    intro j o ho a' W hB hF hD
    have STW := ST.out.call hB
    match j, ho with
    | 0, ho =>
      obtain rfl := Option.some.inj ho
      exact (rel_free ho rfl (wp_load1 45 (.tmp 1) rfl w.heap.size 0 [.string EXPN, .string V1800] _ ((free_eval hF (by kernel_rfl)).trans rfl) ((show Row _ w.heap.size 45 [.string EXPN, .string V1800] from STW.fact (i := 5) rfl)).range Tryz.underlying45 rfl (sizeH _ _) ⟨_, rfl, Below.refl _ _, fun _ _ => rfl⟩))
    | 1, ho =>
      obtain rfl := Option.some.inj ho
      exact (rel_free ho rfl (wp_load1 45 (.tmp 2) rfl (w.heap.size + 1) 0 [.string SUPN, .string VTIM] _ ((free_eval hF (by kernel_rfl)).trans rfl) ((show Row _ (w.heap.size + 1) 45 [.string SUPN, .string VTIM] from STW.fact (i := 6) rfl)).range Tryz.underlying45 rfl (sizeH _ _) ⟨_, rfl, Below.refl _ _, fun _ _ => rfl⟩))
    | 2, ho =>
      obtain rfl := Option.some.inj ho
      have hx1 : a'.eval (.tmp 67) = .agg #[.string EXPN, .string V1800] := (dep_eval hD 0 (by kernel_rfl) rfl rfl)
      have hx2 : a'.eval (.tmp 68) = .agg #[.string SUPN, .string VTIM] := (dep_eval hD 1 (by kernel_rfl) rfl rfl)
      exact (rel_free ho rfl (wp_bslice2 _ _ rfl (.string EXPN) (.string V1800) (.string SUPN) (.string VTIM) hx1 hx2 (fun h => ⟨_, rfl, (Below.refl W.heap.size W).alloc (Nat.le_refl _) _, fun _ _ => ⟨_, rfl, h⟩⟩)))
    | 3, ho =>
      obtain rfl := Option.some.inj ho
      obtain ⟨sb, hx1, hr⟩ := (show ∃ b, a'.eval (.tmp 69) = .slice (some ⟨b, 0, none⟩) 2 2 ∧ Row W b 45 [.string EXPN, .string V1800, .string SUPN, .string VTIM] from (dep_eval hD 2 (by kernel_rfl) rfl rfl))
      exact (rel_free ho rfl (wp_call1 21 _ _ rfl #[.slice (some ⟨sb, 0, none⟩) 2 2] (by simp only [List.map_toArray, List.map_cons, List.map_nil, hx1]) (enters_of Tryz.func21 (by kernel_rfl) rfl) ((invite19_any (some ⟨sb, 0, none⟩) 2 2 W).mono fun e W2 ⟨he, hb⟩ => ⟨_, he, _, rfl, hb, fun _ _ => ⟨sb, rfl, hr.below hb⟩⟩)))
    | 4, ho =>
      obtain rfl := Option.some.inj ho
      exact (rel_free ho rfl (wp_load1 25 (.tmp 3) rfl b1 0 [.int .i64 0, .int .i64 0, .int .i64 1800, .bool true] _ ((free_eval hF (by kernel_rfl)).trans rfl) ((show Row _ b1 25 [.int .i64 0, .int .i64 0, .int .i64 1800, .bool true] from STW.fact (i := 4) rfl)).range Tryz.underlying25 rfl (sizeAg _ _ _ _) ⟨_, rfl, Below.refl _ _, fun _ _ => rfl⟩))
    | 5, ho =>
      obtain rfl := Option.some.inj ho
      obtain ⟨sb, hx1, hr⟩ := (show ∃ b, a'.eval (.tmp 70) = .agg #[.string INV, .string SIPB, .int .i64 0, .string ⟨#[]⟩, .slice (some ⟨b, 0, none⟩) 2 2, .slice none 0 0] ∧ Row W b 45 [.string EXPN, .string V1800, .string SUPN, .string VTIM] from (dep_eval hD 3 (by kernel_rfl) rfl rfl))
      have hx2 : a'.eval (.tmp 71) = .agg #[.int .i64 0, .int .i64 0, .int .i64 1800, .bool true] := (dep_eval hD 4 (by kernel_rfl) rfl rfl)
      exact (rel_free ho rfl (wp_call1 20 _ _ rfl #[.agg #[.string INV, .string SIPB, .int .i64 0, .string ⟨#[]⟩, .slice (some ⟨sb, 0, none⟩) 2 2, .slice none 0 0], .int .i64 90, .int .i64 0, .agg #[.int .i64 0, .int .i64 0, .int .i64 1800, .bool true]] (by simp only [List.map_toArray, List.map_cons, List.map_nil, hx1, hx2]; rfl) (enters_of Tryz.func20 (by kernel_rfl) rfl) ((agrees_yes INV SIPB ⟨#[]⟩ 0 90 0 0 0 1800 true (some ⟨sb, 0, none⟩) none 2 2 0 0 WH W (fun _ => ⟨sb, 0, rfl, hr.lt, fun j u hu => by rw [Nat.zero_add]; exact (hr.cell j).trans hu⟩) WH_ok (HS.out.below STW.bw) (HK.out.below STW.bw) WH_e1 WH_e2 WH_agree).mono fun e W2 ⟨he, hb⟩ => ⟨_, he, _, rfl, hb, fun _ _ => rfl⟩)))
    | 6, ho =>
      obtain rfl := Option.some.inj ho
      exact (rel_free ho rfl (wp_mv1 (.tmp 72) (.inl rfl) ⟨_, rfl, Below.refl _ _, fun _ _ => (show a'.eval (.tmp 72) = .bool true from (dep_eval hD 5 (by kernel_rfl) rfl rfl))⟩))
    | 7, ho =>
      obtain rfl := Option.some.inj ho
      exact (rel_guard (b := true) ho rfl (og := _) rfl rfl (dep_eval hD 6 (by kernel_rfl) rfl rfl) (wp_call1 21 _ _ rfl #[.slice none 0 0] (by simp only [List.map_toArray, List.map_cons, List.map_nil]; rfl) (enters_of Tryz.func21 (by kernel_rfl) rfl) ((invite19_any none 0 0 W).mono fun e W2 ⟨he, hb⟩ => ⟨_, he, _, rfl, hb, fun _ _ => rfl⟩)))
    | 8, ho =>
      obtain rfl := Option.some.inj ho
      exact (rel_guard (b := true) ho rfl (og := _) rfl rfl (dep_eval hD 6 (by kernel_rfl) rfl rfl) (wp_build1 25 _ rfl [] (by simp) #[.int .i64 0, .int .i64 0, .int .i64 0, .bool false] (by kernel_rfl) ⟨_, rfl, Below.refl _ _, fun _ _ => rfl⟩))
    | 9, ho =>
      obtain rfl := Option.some.inj ho
      have hx1 : a'.eval (.tmp 74) = .agg #[.string INV, .string SIPB, .int .i64 0, .string ⟨#[]⟩, .slice none 0 0, .slice none 0 0] := (dep_eval hD 7 (by kernel_rfl) rfl rfl)
      have hx2 : a'.eval (.tmp 75) = .agg #[.int .i64 0, .int .i64 0, .int .i64 0, .bool false] := (dep_eval hD 8 (by kernel_rfl) rfl rfl)
      exact (rel_guard (b := true) ho rfl (og := _) rfl rfl (dep_eval hD 6 (by kernel_rfl) rfl rfl) (wp_call1 20 _ _ rfl #[.agg #[.string INV, .string SIPB, .int .i64 0, .string ⟨#[]⟩, .slice none 0 0, .slice none 0 0], .int .i64 90, .int .i64 0, .agg #[.int .i64 0, .int .i64 0, .int .i64 0, .bool false]] (by simp only [List.map_toArray, List.map_cons, List.map_nil, hx1, hx2]; rfl) (enters_of Tryz.func20 (by kernel_rfl) rfl) ((agrees_yes INV SIPB ⟨#[]⟩ 0 90 0 0 0 0 false none none 0 0 0 0 [] W (fun h => absurd h (by simp [hds])) HdOK.nil (HS.out.below STW.bw) (HK.out.below STW.bw) nil_e1 nil_e2 nil_agree).mono fun e W2 ⟨he, hb⟩ => ⟨_, he, _, rfl, hb, fun _ _ => rfl⟩)))
    | 10, ho =>
      obtain rfl := Option.some.inj ho
      exact (rel_free ho rfl (wp_pick1 (.tmp 73) (.tmp 76) _ rfl (dep_eval hD 6 (by kernel_rfl) rfl rfl) ⟨_, rfl, Below.refl _ _, fun _ _ => (show a'.eval (.tmp 76) = .bool true from (dep_eval hD 9 (by kernel_rfl) rfl rfl))⟩))
    | 11, ho =>
      obtain rfl := Option.some.inj ho
      exact (rel_free ho rfl (wp_mv1 (.tmp 77) (.inl rfl) ⟨_, rfl, Below.refl _ _, fun _ _ => (show a'.eval (.tmp 77) = .bool true from (dep_eval hD 10 (by kernel_rfl) rfl rfl))⟩))
    | 12, ho =>
      obtain rfl := Option.some.inj ho
      exact (rel_guard (b := true) ho rfl (og := _) rfl rfl (dep_eval hD 11 (by kernel_rfl) rfl rfl) (wp_mv1 (.tmp 5) (.inl rfl) ⟨_, rfl, Below.refl _ _, fun _ _ => (show a'.eval (.tmp 5) = .int .u8 0 from ((free_eval hF (by kernel_rfl)).trans rfl))⟩))
    | 13, ho =>
      obtain rfl := Option.some.inj ho
      have hx : a'.eval (.tmp 79) = .int .u8 0 := (dep_eval hD 12 (by kernel_rfl) rfl rfl)
      exact (rel_guard (b := true) ho rfl (og := _) rfl rfl (dep_eval hD 11 (by kernel_rfl) rfl rfl) (wp_bin1 _ _ _ _ _ rfl _ _ (.bool true) hx rfl (fun w => by kernel_rfl) (fun w => by kernel_rfl) ⟨_, rfl, Below.refl _ _, fun _ _ => rfl⟩))
    | 14, ho =>
      obtain rfl := Option.some.inj ho
      exact (rel_free ho rfl (wp_pick1 (.tmp 78) (.tmp 80) _ rfl (dep_eval hD 11 (by kernel_rfl) rfl rfl) ⟨_, rfl, Below.refl _ _, fun _ _ => (show a'.eval (.tmp 80) = .bool true from (dep_eval hD 13 (by kernel_rfl) rfl rfl))⟩))
    | 15, ho =>
      obtain rfl := Option.some.inj ho
      exact (rel_free ho rfl (wp_mv1 (.tmp 81) (.inl rfl) ⟨_, rfl, Below.refl _ _, fun _ _ => (show a'.eval (.tmp 81) = .bool true from (dep_eval hD 14 (by kernel_rfl) rfl rfl))⟩))
    | 16, ho =>
      obtain rfl := Option.some.inj ho
      exact (rel_guard (b := true) ho rfl (og := _) rfl rfl (dep_eval hD 15 (by kernel_rfl) rfl rfl) (wp_mv1 (.tmp 7) (.inl rfl) ⟨_, rfl, Below.refl _ _, fun _ _ => (show a'.eval (.tmp 7) = .int .u8 0 from ((free_eval hF (by kernel_rfl)).trans rfl))⟩))
    | 17, ho =>
      obtain rfl := Option.some.inj ho
      have hx : a'.eval (.tmp 83) = .int .u8 0 := (dep_eval hD 16 (by kernel_rfl) rfl rfl)
      exact (rel_guard (b := true) ho rfl (og := _) rfl rfl (dep_eval hD 15 (by kernel_rfl) rfl rfl) (wp_bin1 _ _ _ _ _ rfl _ _ (.bool true) hx rfl (fun w => by kernel_rfl) (fun w => by kernel_rfl) ⟨_, rfl, Below.refl _ _, fun _ _ => rfl⟩))
    | 18, ho =>
      obtain rfl := Option.some.inj ho
      exact (rel_free ho rfl (wp_pick1 (.tmp 82) (.tmp 84) _ rfl (dep_eval hD 15 (by kernel_rfl) rfl rfl) ⟨_, rfl, Below.refl _ _, fun _ _ => (show a'.eval (.tmp 84) = .bool true from (dep_eval hD 17 (by kernel_rfl) rfl rfl))⟩))
    | 19, ho =>
      obtain rfl := Option.some.inj ho
      exact (rel_free ho rfl (wp_mv1 (.tmp 85) (.inl rfl) ⟨_, rfl, Below.refl _ _, fun _ _ => (show a'.eval (.tmp 85) = .bool true from (dep_eval hD 18 (by kernel_rfl) rfl rfl))⟩))
    | 20, ho =>
      obtain rfl := Option.some.inj ho
      exact (rel_guard (b := true) ho rfl (og := _) rfl rfl (dep_eval hD 19 (by kernel_rfl) rfl rfl) (wp_fa1 23 (.tmp 4) 1 rfl b3 1 ((free_eval hF (by kernel_rfl)).trans rfl) (fun w => by kernel_rfl) ⟨_, rfl, Below.refl _ _, fun _ _ => rfl⟩))
    | 21, ho =>
      obtain rfl := Option.some.inj ho
      exact (rel_guard (b := true) ho rfl (og := _) rfl rfl (dep_eval hD 19 (by kernel_rfl) rfl rfl) (wp_ldc1 4 (.tmp 87) rfl b3 1 (.bool true) (dep_eval hD 20 (by kernel_rfl) rfl rfl) ((show Row _ b3 23 [.int .i64 1800, .bool true, .int .i64 5000, .bool false, .bool false] from STW.fact (i := 3) rfl).cell 1) _ Tryz.underlying4 rfl ⟨_, rfl, Below.refl _ _, fun _ _ => rfl⟩))
    | 22, ho =>
      obtain rfl := Option.some.inj ho
      exact (rel_free ho rfl (wp_pick1 (.tmp 86) (.tmp 88) _ rfl (dep_eval hD 19 (by kernel_rfl) rfl rfl) ⟨_, rfl, Below.refl _ _, fun _ _ => (show a'.eval (.tmp 88) = .bool true from (dep_eval hD 21 (by kernel_rfl) rfl rfl))⟩))
    | 23, ho =>
      obtain rfl := Option.some.inj ho
      exact (rel_free ho rfl (wp_mv1 (.tmp 89) (.inl rfl) ⟨_, rfl, Below.refl _ _, fun _ _ => (show a'.eval (.tmp 89) = .bool true from (dep_eval hD 22 (by kernel_rfl) rfl rfl))⟩))
    | 24, ho =>
      obtain rfl := Option.some.inj ho
      exact (rel_guard (b := true) ho rfl (og := _) rfl rfl (dep_eval hD 23 (by kernel_rfl) rfl rfl) (wp_fa1 23 (.tmp 6) 1 rfl b5 1 ((free_eval hF (by kernel_rfl)).trans rfl) (fun w => by kernel_rfl) ⟨_, rfl, Below.refl _ _, fun _ _ => rfl⟩))
    | 25, ho =>
      obtain rfl := Option.some.inj ho
      exact (rel_guard (b := true) ho rfl (og := _) rfl rfl (dep_eval hD 23 (by kernel_rfl) rfl rfl) (wp_ldc1 4 (.tmp 91) rfl b5 1 (.bool false) (dep_eval hD 24 (by kernel_rfl) rfl rfl) ((show Row _ b5 23 [.int .i64 1800, .bool false, .int .i64 5000, .bool false, .bool false] from STW.fact (i := 2) rfl).cell 1) _ Tryz.underlying4 rfl ⟨_, rfl, Below.refl _ _, fun _ _ => rfl⟩))
    | 26, ho =>
      obtain rfl := Option.some.inj ho
      have hx : a'.eval (.tmp 92) = .bool false := (dep_eval hD 25 (by kernel_rfl) rfl rfl)
      exact (rel_guard (b := true) ho rfl (og := _) rfl rfl (dep_eval hD 23 (by kernel_rfl) rfl rfl) (wp_not1 _ _ rfl _ hx ⟨_, rfl, Below.refl _ _, fun _ _ => rfl⟩))
    | 27, ho =>
      obtain rfl := Option.some.inj ho
      exact (rel_free ho rfl (wp_pick1 (.tmp 90) (.tmp 93) _ rfl (dep_eval hD 23 (by kernel_rfl) rfl rfl) ⟨_, rfl, Below.refl _ _, fun _ _ => (show a'.eval (.tmp 93) = .bool true from (dep_eval hD 26 (by kernel_rfl) rfl rfl))⟩))
    | 28, ho =>
      obtain rfl := Option.some.inj ho
      exact (rel_free ho rfl (wp_mv1 (.tmp 94) (.inl rfl) ⟨_, rfl, Below.refl _ _, fun _ _ => (show a'.eval (.tmp 94) = .bool true from (dep_eval hD 27 (by kernel_rfl) rfl rfl))⟩))
    | 29, ho =>
      obtain rfl := Option.some.inj ho
      exact (rel_guard (b := true) ho rfl (og := _) rfl rfl (dep_eval hD 28 (by kernel_rfl) rfl rfl) (wp_mv1 (.tmp 8) (.inl rfl) ⟨_, rfl, Below.refl _ _, fun _ _ => (show a'.eval (.tmp 8) = .int .i64 905000 from ((free_eval hF (by kernel_rfl)).trans rfl))⟩))
    | 30, ho =>
      obtain rfl := Option.some.inj ho
      have hx : a'.eval (.tmp 96) = .int .i64 905000 := (dep_eval hD 29 (by kernel_rfl) rfl rfl)
      exact (rel_guard (b := true) ho rfl (og := _) rfl rfl (dep_eval hD 28 (by kernel_rfl) rfl rfl) (wp_bin1 _ _ _ _ _ rfl _ _ (.bool true) hx rfl (fun w => by kernel_rfl) (fun w => by kernel_rfl) ⟨_, rfl, Below.refl _ _, fun _ _ => rfl⟩))
    | 31, ho =>
      obtain rfl := Option.some.inj ho
      exact (rel_free ho rfl (wp_pick1 (.tmp 95) (.tmp 97) _ rfl (dep_eval hD 28 (by kernel_rfl) rfl rfl) ⟨_, rfl, Below.refl _ _, fun _ _ => (show a'.eval (.tmp 97) = .bool true from (dep_eval hD 30 (by kernel_rfl) rfl rfl))⟩))
    | 32, ho =>
      obtain rfl := Option.some.inj ho
      exact (rel_free ho rfl (wp_mv1 (.tmp 98) (.inl rfl) ⟨_, rfl, Below.refl _ _, fun _ _ => (show a'.eval (.tmp 98) = .bool true from (dep_eval hD 31 (by kernel_rfl) rfl rfl))⟩))
    | 33, ho =>
      obtain rfl := Option.some.inj ho
      exact (rel_guard (b := true) ho rfl (og := _) rfl rfl (dep_eval hD 32 (by kernel_rfl) rfl rfl) (wp_mv1 (.tmp 9) (.inl rfl) ⟨_, rfl, Below.refl _ _, fun _ _ => (show a'.eval (.tmp 9) = .bool true from ((free_eval hF (by kernel_rfl)).trans rfl))⟩))
    | 34, ho =>
      obtain rfl := Option.some.inj ho
      exact (rel_free ho rfl (wp_pick1 (.tmp 99) (.tmp 100) _ rfl (dep_eval hD 32 (by kernel_rfl) rfl rfl) ⟨_, rfl, Below.refl _ _, fun _ _ => (show a'.eval (.tmp 100) = .bool true from (dep_eval hD 33 (by kernel_rfl) rfl rfl))⟩))
    | 35, ho =>
      obtain rfl := Option.some.inj ho
      exact (rel_free ho rfl (wp_mv1 (.tmp 101) (.inl rfl) ⟨_, rfl, Below.refl _ _, fun _ _ => (show a'.eval (.tmp 101) = .bool true from (dep_eval hD 34 (by kernel_rfl) rfl rfl))⟩))
    | 36, ho =>
      obtain rfl := Option.some.inj ho
      exact (rel_guard (b := true) ho rfl (og := _) rfl rfl (dep_eval hD 35 (by kernel_rfl) rfl rfl) (wp_mv1 (.tmp 10) (.inl rfl) ⟨_, rfl, Below.refl _ _, fun _ _ => (show a'.eval (.tmp 10) = .int .i64 1773000 from ((free_eval hF (by kernel_rfl)).trans rfl))⟩))
    | 37, ho =>
      obtain rfl := Option.some.inj ho
      have hx : a'.eval (.tmp 103) = .int .i64 1773000 := (dep_eval hD 36 (by kernel_rfl) rfl rfl)
      exact (rel_guard (b := true) ho rfl (og := _) rfl rfl (dep_eval hD 35 (by kernel_rfl) rfl rfl) (wp_bin1 _ _ _ _ _ rfl _ _ (.bool true) hx rfl (fun w => by kernel_rfl) (fun w => by kernel_rfl) ⟨_, rfl, Below.refl _ _, fun _ _ => rfl⟩))
    | 38, ho =>
      obtain rfl := Option.some.inj ho
      exact (rel_free ho rfl (wp_pick1 (.tmp 102) (.tmp 104) _ rfl (dep_eval hD 35 (by kernel_rfl) rfl rfl) ⟨_, rfl, Below.refl _ _, fun _ _ => (show a'.eval (.tmp 104) = .bool true from (dep_eval hD 37 (by kernel_rfl) rfl rfl))⟩))
    | 39, ho =>
      obtain rfl := Option.some.inj ho
      exact (rel_free ho rfl (wp_mv1 (.tmp 105) (.inl rfl) ⟨_, rfl, Below.refl _ _, fun _ _ => (show a'.eval (.tmp 105) = .bool true from (dep_eval hD 38 (by kernel_rfl) rfl rfl))⟩))
    | 40, ho =>
      obtain rfl := Option.some.inj ho
      exact (rel_guard (b := true) ho rfl (og := _) rfl rfl (dep_eval hD 39 (by kernel_rfl) rfl rfl) (wp_mv1 (.tmp 11) (.inl rfl) ⟨_, rfl, Below.refl _ _, fun _ _ => (show a'.eval (.tmp 11) = .bool true from ((free_eval hF (by kernel_rfl)).trans rfl))⟩))
    | 41, ho =>
      obtain rfl := Option.some.inj ho
      exact (rel_free ho rfl (wp_pick1 (.tmp 106) (.tmp 107) _ rfl (dep_eval hD 39 (by kernel_rfl) rfl rfl) ⟨_, rfl, Below.refl _ _, fun _ _ => (show a'.eval (.tmp 107) = .bool true from (dep_eval hD 40 (by kernel_rfl) rfl rfl))⟩))
    | 42, ho =>
      obtain rfl := Option.some.inj ho
      exact (rel_free ho rfl (wp_mv1 (.tmp 108) (.inl rfl) ⟨_, rfl, Below.refl _ _, fun _ _ => (show a'.eval (.tmp 108) = .bool true from (dep_eval hD 41 (by kernel_rfl) rfl rfl))⟩))
    | 43, ho =>
      obtain rfl := Option.some.inj ho
      exact (rel_guard (b := true) ho rfl (og := _) rfl rfl (dep_eval hD 42 (by kernel_rfl) rfl rfl) (wp_mv1 (.tmp 13) (.inl rfl) ⟨_, rfl, Below.refl _ _, fun _ _ => (show a'.eval (.tmp 13) = .int .u8 1 from ((free_eval hF (by kernel_rfl)).trans rfl))⟩))
    | 44, ho =>
      obtain rfl := Option.some.inj ho
      have hx : a'.eval (.tmp 110) = .int .u8 1 := (dep_eval hD 43 (by kernel_rfl) rfl rfl)
      exact (rel_guard (b := true) ho rfl (og := _) rfl rfl (dep_eval hD 42 (by kernel_rfl) rfl rfl) (wp_bin1 _ _ _ _ _ rfl _ _ (.bool true) hx rfl (fun w => by kernel_rfl) (fun w => by kernel_rfl) ⟨_, rfl, Below.refl _ _, fun _ _ => rfl⟩))
    | 45, ho =>
      obtain rfl := Option.some.inj ho
      exact (rel_free ho rfl (wp_pick1 (.tmp 109) (.tmp 111) _ rfl (dep_eval hD 42 (by kernel_rfl) rfl rfl) ⟨_, rfl, Below.refl _ _, fun _ _ => (show a'.eval (.tmp 111) = .bool true from (dep_eval hD 44 (by kernel_rfl) rfl rfl))⟩))
    | 46, ho =>
      obtain rfl := Option.some.inj ho
      exact (rel_free ho rfl (wp_mv1 (.tmp 112) (.inl rfl) ⟨_, rfl, Below.refl _ _, fun _ _ => (show a'.eval (.tmp 112) = .bool true from (dep_eval hD 45 (by kernel_rfl) rfl rfl))⟩))
    | 47, ho =>
      obtain rfl := Option.some.inj ho
      exact (rel_guard (b := true) ho rfl (og := _) rfl rfl (dep_eval hD 46 (by kernel_rfl) rfl rfl) (wp_mv1 (.tmp 14) (.inl rfl) ⟨_, rfl, Below.refl _ _, fun _ _ => (show a'.eval (.tmp 14) = .int .u8 0 from ((free_eval hF (by kernel_rfl)).trans rfl))⟩))
    | 48, ho =>
      obtain rfl := Option.some.inj ho
      have hx : a'.eval (.tmp 114) = .int .u8 0 := (dep_eval hD 47 (by kernel_rfl) rfl rfl)
      exact (rel_guard (b := true) ho rfl (og := _) rfl rfl (dep_eval hD 46 (by kernel_rfl) rfl rfl) (wp_bin1 _ _ _ _ _ rfl _ _ (.bool true) hx rfl (fun w => by kernel_rfl) (fun w => by kernel_rfl) ⟨_, rfl, Below.refl _ _, fun _ _ => rfl⟩))
    | 49, ho =>
      obtain rfl := Option.some.inj ho
      exact (rel_free ho rfl (wp_pick1 (.tmp 113) (.tmp 115) _ rfl (dep_eval hD 46 (by kernel_rfl) rfl rfl) ⟨_, rfl, Below.refl _ _, fun _ _ => (show a'.eval (.tmp 115) = .bool true from (dep_eval hD 48 (by kernel_rfl) rfl rfl))⟩))
    | 50, ho =>
      obtain rfl := Option.some.inj ho
      exact (rel_free ho rfl (wp_mv1 (.tmp 116) (.inl rfl) ⟨_, rfl, Below.refl _ _, fun _ _ => (show a'.eval (.tmp 116) = .bool true from (dep_eval hD 49 (by kernel_rfl) rfl rfl))⟩))
    | 51, ho =>
      obtain rfl := Option.some.inj ho
      exact (rel_guard (b := true) ho rfl (og := _) rfl rfl (dep_eval hD 50 (by kernel_rfl) rfl rfl) (wp_mv1 (.tmp 15) (.inl rfl) ⟨_, rfl, Below.refl _ _, fun _ _ => (show a'.eval (.tmp 15) = .int .i64 1773000 from ((free_eval hF (by kernel_rfl)).trans rfl))⟩))
    | 52, ho =>
      obtain rfl := Option.some.inj ho
      have hx : a'.eval (.tmp 118) = .int .i64 1773000 := (dep_eval hD 51 (by kernel_rfl) rfl rfl)
      exact (rel_guard (b := true) ho rfl (og := _) rfl rfl (dep_eval hD 50 (by kernel_rfl) rfl rfl) (wp_bin1 _ _ _ _ _ rfl _ _ (.bool true) hx rfl (fun w => by kernel_rfl) (fun w => by kernel_rfl) ⟨_, rfl, Below.refl _ _, fun _ _ => rfl⟩))
    | 53, ho =>
      obtain rfl := Option.some.inj ho
      exact (rel_free ho rfl (wp_pick1 (.tmp 117) (.tmp 119) _ rfl (dep_eval hD 50 (by kernel_rfl) rfl rfl) ⟨_, rfl, Below.refl _ _, fun _ _ => (show a'.eval (.tmp 119) = .bool true from (dep_eval hD 52 (by kernel_rfl) rfl rfl))⟩))
    | 54, ho =>
      obtain rfl := Option.some.inj ho
      exact (rel_free ho rfl (wp_mv1 (.tmp 120) (.inl rfl) ⟨_, rfl, Below.refl _ _, fun _ _ => (show a'.eval (.tmp 120) = .bool true from (dep_eval hD 53 (by kernel_rfl) rfl rfl))⟩))
    | 55, ho =>
      obtain rfl := Option.some.inj ho
      exact (rel_guard (b := true) ho rfl (og := _) rfl rfl (dep_eval hD 54 (by kernel_rfl) rfl rfl) (wp_mv1 (.tmp 16) (.inl rfl) ⟨_, rfl, Below.refl _ _, fun _ _ => (show a'.eval (.tmp 16) = .bool true from ((free_eval hF (by kernel_rfl)).trans rfl))⟩))
    | 56, ho =>
      obtain rfl := Option.some.inj ho
      exact (rel_free ho rfl (wp_pick1 (.tmp 121) (.tmp 122) _ rfl (dep_eval hD 54 (by kernel_rfl) rfl rfl) ⟨_, rfl, Below.refl _ _, fun _ _ => (show a'.eval (.tmp 122) = .bool true from (dep_eval hD 55 (by kernel_rfl) rfl rfl))⟩))
    | 57, ho =>
      obtain rfl := Option.some.inj ho
      exact (rel_free ho rfl (wp_mv1 (.tmp 123) (.inl rfl) ⟨_, rfl, Below.refl _ _, fun _ _ => (show a'.eval (.tmp 123) = .bool true from (dep_eval hD 56 (by kernel_rfl) rfl rfl))⟩))
    | 58, ho =>
      obtain rfl := Option.some.inj ho
      exact (rel_guard (b := true) ho rfl (og := _) rfl rfl (dep_eval hD 57 (by kernel_rfl) rfl rfl) (wp_mv1 (.tmp 18) (.inl rfl) ⟨_, rfl, Below.refl _ _, fun _ _ => (show a'.eval (.tmp 18) = .int .u8 0 from ((free_eval hF (by kernel_rfl)).trans rfl))⟩))
    | 59, ho =>
      obtain rfl := Option.some.inj ho
      have hx : a'.eval (.tmp 125) = .int .u8 0 := (dep_eval hD 58 (by kernel_rfl) rfl rfl)
      exact (rel_guard (b := true) ho rfl (og := _) rfl rfl (dep_eval hD 57 (by kernel_rfl) rfl rfl) (wp_bin1 _ _ _ _ _ rfl _ _ (.bool true) hx rfl (fun w => by kernel_rfl) (fun w => by kernel_rfl) ⟨_, rfl, Below.refl _ _, fun _ _ => rfl⟩))
    | 60, ho =>
      obtain rfl := Option.some.inj ho
      exact (rel_free ho rfl (wp_pick1 (.tmp 124) (.tmp 126) _ rfl (dep_eval hD 57 (by kernel_rfl) rfl rfl) ⟨_, rfl, Below.refl _ _, fun _ _ => (show a'.eval (.tmp 126) = .bool true from (dep_eval hD 59 (by kernel_rfl) rfl rfl))⟩))
    | 61, ho =>
      obtain rfl := Option.some.inj ho
      exact (rel_free ho rfl (wp_mv1 (.tmp 127) (.inl rfl) ⟨_, rfl, Below.refl _ _, fun _ _ => (show a'.eval (.tmp 127) = .bool true from (dep_eval hD 60 (by kernel_rfl) rfl rfl))⟩))
    | 62, ho =>
      obtain rfl := Option.some.inj ho
      exact (rel_guard (b := true) ho rfl (og := _) rfl rfl (dep_eval hD 61 (by kernel_rfl) rfl rfl) (wp_mv1 (.tmp 19) (.inl rfl) ⟨_, rfl, Below.refl _ _, fun _ _ => (show a'.eval (.tmp 19) = .int .u8 0 from ((free_eval hF (by kernel_rfl)).trans rfl))⟩))
    | 63, ho =>
      obtain rfl := Option.some.inj ho
      have hx : a'.eval (.tmp 129) = .int .u8 0 := (dep_eval hD 62 (by kernel_rfl) rfl rfl)
      exact (rel_guard (b := true) ho rfl (og := _) rfl rfl (dep_eval hD 61 (by kernel_rfl) rfl rfl) (wp_bin1 _ _ _ _ _ rfl _ _ (.bool true) hx rfl (fun w => by kernel_rfl) (fun w => by kernel_rfl) ⟨_, rfl, Below.refl _ _, fun _ _ => rfl⟩))
    | 64, ho =>
      obtain rfl := Option.some.inj ho
      exact (rel_free ho rfl (wp_pick1 (.tmp 128) (.tmp 130) _ rfl (dep_eval hD 61 (by kernel_rfl) rfl rfl) ⟨_, rfl, Below.refl _ _, fun _ _ => (show a'.eval (.tmp 130) = .bool true from (dep_eval hD 63 (by kernel_rfl) rfl rfl))⟩))
    | 65, ho =>
      obtain rfl := Option.some.inj ho
      exact (rel_free ho rfl (wp_mv1 (.tmp 131) (.inl rfl) ⟨_, rfl, Below.refl _ _, fun _ _ => (show a'.eval (.tmp 131) = .bool true from (dep_eval hD 64 (by kernel_rfl) rfl rfl))⟩))
    | 66, ho =>
      obtain rfl := Option.some.inj ho
      exact (rel_guard (b := true) ho rfl (og := _) rfl rfl (dep_eval hD 65 (by kernel_rfl) rfl rfl) (wp_mv1 (.tmp 20) (.inl rfl) ⟨_, rfl, Below.refl _ _, fun _ _ => (show a'.eval (.tmp 20) = .int .i64 1806000 from ((free_eval hF (by kernel_rfl)).trans rfl))⟩))
    | 67, ho =>
      obtain rfl := Option.some.inj ho
      have hx : a'.eval (.tmp 133) = .int .i64 1806000 := (dep_eval hD 66 (by kernel_rfl) rfl rfl)
      exact (rel_guard (b := true) ho rfl (og := _) rfl rfl (dep_eval hD 65 (by kernel_rfl) rfl rfl) (wp_bin1 _ _ _ _ _ rfl _ _ (.bool true) hx rfl (fun w => by kernel_rfl) (fun w => by kernel_rfl) ⟨_, rfl, Below.refl _ _, fun _ _ => rfl⟩))
    | 68, ho =>
      obtain rfl := Option.some.inj ho
      exact (rel_free ho rfl (wp_pick1 (.tmp 132) (.tmp 134) _ rfl (dep_eval hD 65 (by kernel_rfl) rfl rfl) ⟨_, rfl, Below.refl _ _, fun _ _ => (show a'.eval (.tmp 134) = .bool true from (dep_eval hD 67 (by kernel_rfl) rfl rfl))⟩))
    | 69, ho =>
      obtain rfl := Option.some.inj ho
      exact (rel_free ho rfl (wp_mv1 (.tmp 135) (.inl rfl) ⟨_, rfl, Below.refl _ _, fun _ _ => (show a'.eval (.tmp 135) = .bool true from (dep_eval hD 68 (by kernel_rfl) rfl rfl))⟩))
    | 70, ho =>
      obtain rfl := Option.some.inj ho
      exact (rel_guard (b := true) ho rfl (og := _) rfl rfl (dep_eval hD 69 (by kernel_rfl) rfl rfl) (wp_mv1 (.tmp 21) (.inl rfl) ⟨_, rfl, Below.refl _ _, fun _ _ => (show a'.eval (.tmp 21) = .bool true from ((free_eval hF (by kernel_rfl)).trans rfl))⟩))
    | 71, ho =>
      obtain rfl := Option.some.inj ho
      exact (rel_free ho rfl (wp_pick1 (.tmp 136) (.tmp 137) _ rfl (dep_eval hD 69 (by kernel_rfl) rfl rfl) ⟨_, rfl, Below.refl _ _, fun _ _ => (show a'.eval (.tmp 137) = .bool true from (dep_eval hD 70 (by kernel_rfl) rfl rfl))⟩))
    | 72, ho =>
      obtain rfl := Option.some.inj ho
      exact (rel_free ho rfl (wp_mv1 (.tmp 138) (.inr rfl) ⟨_, rfl, Below.refl _ _, fun _ _ => (show a'.eval (.tmp 138) = .bool true from (dep_eval hD 71 (by kernel_rfl) rfl rfl))⟩))
    | j + 73, ho => exact absurd ho (by simp)
  case hend =>
    intro a' W hF hB hall
    replace ST := Lib.hid (ST.out.call hB)
    have hv : a'.tmps.getD 0 undef = .bool true := hall 72 _ 0 rfl rfl
    have hdf : a'.defers = [] := hF.2.1.trans rfl
    clear hall hF hB
    go_wp2_with fail
    refine bodyPost_ret (results_tmp rfl _ _ _) hdf ⟨by rw [hv], ST.out.bw⟩
  
end Go.Proofs.YtcnkjgjimcddiaaGreatDoor
