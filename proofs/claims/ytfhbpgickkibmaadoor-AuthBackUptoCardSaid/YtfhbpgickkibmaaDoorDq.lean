/- Contract: the law AuthBack. -/
import Derived.Test.YtfhbpgickkibmaaDoorDp
namespace Go.Proofs.YtfhbpgickkibmaaDoor
open Go.RowKit

theorem guard5n (x y : Operand) (xs ys : Array Value) (w : World) : (eqGuard .neq 23 x y (.agg xs) (.agg ys)).run Tryd.prog w = .ok () w := run_eqGuard_agg w .neq _ x y xs ys (by kernel_rfl)
/-- What the walk keeps: both arguments' blocks. -/
structure BK (w : World) (a b : List Value) (wr : World) : Prop where
  bw : Below w.heap.size w wr
  a : Row wr w.heap.size 23 a
  b : Row wr (w.heap.size + 1) 32 b
theorem BK.below {w : World} {a b : List Value} {wr w' : World} (h : BK w a b wr) (hb : Below wr.heap.size wr w') : BK w a b w' := ⟨bthen h.bw hb, h.a.below hb, h.b.below hb⟩
set_option maxRecDepth 100000 in
set_option maxHeartbeats 4000000 in
theorem authback_any (rs ns os : ByteArray) (i st : Bool) (us r2 n2 is ps cs o2 : ByteArray) (k : Int) (g : Bool) (w : World) (hb1 : rs.size + ns.size + os.size ≤ 1048576) (hb2 : us.size + r2.size + n2.size + is.size + ps.size + cs.size + o2.size ≤ 1048576) (hm : GM w) :
    Calls Tryd.prog 4 #[.agg #[.string rs, .string ns, .string os, .bool i, .bool st], .agg #[.string us, .string r2, .string n2, .string is, .string ps, .string cs, .string o2, .int .i64 k, .bool g]] w fun e w' => e = .returned (.bool true) ∧ Below w.heap.size w w' := by
  have C2 := Lib.hid (ch_two rs ns os i st hb1)
  have D2 := Lib.hid (cr_two us r2 n2 is ps cs o2 k g hb2)
  have HG := Lib.hid hm
  clear hm
  have K0 := Lib.hid (show BK w [.string rs, .string ns, .string os, .bool i, .bool st] [.string us, .string r2, .string n2, .string is, .string ps, .string cs, .string o2, .int .i64 k, .bool g] ((w.alloc (.cells #[.string rs, .string ns, .string os, .bool i, .bool st] 23)).alloc (.cells #[.string us, .string r2, .string n2, .string is, .string ps, .string cs, .string o2, .int .i64 k, .bool g] 32)) from by
    have b1 : Below w.heap.size w (w.alloc (.cells #[.string rs, .string ns, .string os, .bool i, .bool st] 23)) := (Below.refl _ _).alloc (Nat.le_refl _) _
    have b2 : Below (w.alloc (.cells #[.string rs, .string ns, .string os, .bool i, .bool st] 23)).heap.size (w.alloc (.cells #[.string rs, .string ns, .string os, .bool i, .bool st] 23)) ((w.alloc (.cells #[.string rs, .string ns, .string os, .bool i, .bool st] 23)).alloc (.cells #[.string us, .string r2, .string n2, .string is, .string ps, .string cs, .string o2, .int .i64 k, .bool g] 32)) := (Below.refl _ _).alloc (Nat.le_refl _) _
    have r2' := Row.new (w.alloc (.cells #[.string rs, .string ns, .string os, .bool i, .bool st] 23)) 32 [.string us, .string r2, .string n2, .string is, .string ps, .string cs, .string o2, .int .i64 k, .bool g]
    rw [show (w.alloc (.cells #[.string rs, .string ns, .string os, .bool i, .bool st] 23)).heap.size = w.heap.size + 1 by simp] at r2'
    exact ⟨bthen b1 b2, (Row.new w 23 [.string rs, .string ns, .string os, .bool i, .bool st]).below b2, r2'⟩)
  have hgn := guard5n
  have hsm := same5
  have hse : ∀ (xs ys : Array Value) (w : World), (binOp .neq 23 (.agg xs) (.agg ys)).run Tryd.prog w = ((Op.equalIn 10000 23 (.agg xs) (.agg ys)).run Tryd.prog w).andThen fun b w' => .ok (.bool (!b)) w' := fun xs ys w => run_neq_struct w _ xs ys
  have hgd := guard9
  have hsm9 := same9
  have hse9 : ∀ (xs ys : Array Value) (w : World), (binOp .eql 32 (.agg xs) (.agg ys)).run Tryd.prog w = ((Op.equalIn 10000 32 (.agg xs) (.agg ys)).run Tryd.prog w).andThen fun b w' => .ok (.bool b) w' := fun xs ys w => run_eql_struct w _ xs ys
  go_enter Tryd.func4, Tryd.ntmps4
  go_wp2_with (with_reducible refine wpList_loadR rfl 23 (.tmp 2) rfl K0.out.a rfl Tryd.underlying23 rfl (sizeL5 _ _ _ _ _) ?_)
  refine (printch_any rs ns os i st _ (by omega) (by omega) (by omega)).mono ?_
  rintro e w1 ⟨rfl, hb⟩
  have K1 := Lib.hid (K0.out.below hb)
  clear hb K0
  rcases C2.out with h1 | ⟨T, h1, t1, p1⟩
  · rw [h1]
    clear h1
    go_wp2_with (with_reducible refine wpList_loadR rfl 32 (.tmp 3) rfl K1.out.b rfl Tryd.underlying32 rfl (sizeL9 _ _ _ _ _ _ _ _ _) ?_)
    refine (printcr_any us r2 n2 is ps cs o2 k g _ (by omega) (by omega) (by omega) (by omega) (by omega) (by omega) (by omega)).mono ?_
    rintro e w11 ⟨rfl, hb⟩
    have K5 := Lib.hid (K1.out.below hb)
    clear hb K1
    rcases D2.out with h2 | ⟨T2, h2, t2, p2⟩
    · rw [h2]
      clear h2
      go_wp2_with fail
      refine (awake_any _ (HG.out.below K5.out.bw)).mono ?_
      rintro e w7 ⟨rfl, hb7⟩
      have B9 := Lib.hid (bthen K5.out.bw hb7)
      clear hb7
      go_wp2_with fail
      go_ret
      exact ⟨rfl, B9.out⟩
    · rw [h2]
      have P2 := Lib.hid p2
      clear h2 p2
      go_wp2_with fail
      refine (parsecr_any T2 _ t2).mono ?_
      rintro e w12 ⟨rfl, hb⟩
      have K6 := Lib.hid (K5.out.below hb)
      clear hb K5
      rw [P2.out]
      have R0 := Lib.hid (Row.new w12 32 Z9)
      have BA := Lib.hid ((Below.refl w12.heap.size w12).alloc (Nat.le_refl _) (.cells Z9.toArray 32))
      go_wp2_with (with_reducible refine wpList_storeR rfl 32 (.tmp 11) (.tmp 57) rfl R0.out [.string us, .string r2, .string n2, .string is, .string ps, .string cs, .string o2, .int .i64 k, .bool g] rfl rfl (lenL9 _ _ _ _ _ _ _ _ _ _ _ _ _ _ _ _ _ _) (sizeL9 _ _ _ _ _ _ _ _ _) (p9_one _ _ _ _ _ _ _ _ _) BA.out (Nat.le_refl _) ?_)
      intro w13 R13 B13 _
      have K7 := Lib.hid (K6.out.below B13.out)
      clear K6 R0 BA B13
      obtain ⟨a0, a1, a2, a3, a4, a5, a6, a7, a8⟩ := R13.out.nine
      obtain ⟨c0, c1, c2, c3, c4, c5, c6, c7, c8⟩ := K7.out.b.nine
      go_wp2_with fail
      refine (awake_any _ (HG.out.below K7.out.bw)).mono ?_
      rintro e w7 ⟨rfl, hb7⟩
      have B9 := Lib.hid (bthen K7.out.bw hb7)
      clear hb7
      go_wp2_with fail
      go_ret
      exact ⟨rfl, B9.out⟩
  · rw [h1]
    have P1 := Lib.hid p1
    clear h1 p1
    have g1 := HG.out.below K1.out.bw
    go_wp2_with fail
    refine (parsech_any T _ t1 g1).mono ?_
    rintro e w2 ⟨rfl, hb⟩
    have K2 := Lib.hid (K1.out.below hb)
    clear hb K1 g1
    rw [P1.out]
    have R0 := Lib.hid (Row.new w2 23 Z5)
    have BA := Lib.hid ((Below.refl w2.heap.size w2).alloc (Nat.le_refl _) (.cells Z5.toArray 23))
    go_wp2_with (with_reducible refine wpList_storeR rfl 23 (.tmp 7) (.tmp 23) rfl R0.out [.string rs, .string ns, .string os, .bool i, .bool st] rfl rfl (lenL5 _ _ _ _ _ _ _ _ _ _) (sizeL5 _ _ _ _ _) (p5_one _ _ _ _ _) BA.out (Nat.le_refl _) ?_)
    intro w3 R3 B3 _
    have K3 := Lib.hid (K2.out.below B3.out)
    clear K2 R0 BA B3
    obtain ⟨x0, x1, x2, x3, x4⟩ := R3.out.five
    obtain ⟨y0, y1, y2, y3, y4⟩ := K3.out.a.five
    go_wp2_with (with_reducible refine wpList_loadR rfl 32 (.tmp 3) rfl K3.out.b rfl Tryd.underlying32 rfl (sizeL9 _ _ _ _ _ _ _ _ _) ?_)
    refine (printcr_any us r2 n2 is ps cs o2 k g _ (by omega) (by omega) (by omega) (by omega) (by omega) (by omega) (by omega)).mono ?_
    rintro e w11 ⟨rfl, hb⟩
    have K5 := Lib.hid (K3.out.below hb)
    clear hb K3
    rcases D2.out with h2 | ⟨T2, h2, t2, p2⟩
    · rw [h2]
      clear h2
      go_wp2_with fail
      refine (awake_any _ (HG.out.below K5.out.bw)).mono ?_
      rintro e w7 ⟨rfl, hb7⟩
      have B9 := Lib.hid (bthen K5.out.bw hb7)
      clear hb7
      go_wp2_with fail
      go_ret
      exact ⟨rfl, B9.out⟩
    · rw [h2]
      have P2 := Lib.hid p2
      clear h2 p2
      go_wp2_with fail
      refine (parsecr_any T2 _ t2).mono ?_
      rintro e w12 ⟨rfl, hb⟩
      have K6 := Lib.hid (K5.out.below hb)
      clear hb K5
      rw [P2.out]
      have R0 := Lib.hid (Row.new w12 32 Z9)
      have BA := Lib.hid ((Below.refl w12.heap.size w12).alloc (Nat.le_refl _) (.cells Z9.toArray 32))
      go_wp2_with (with_reducible refine wpList_storeR rfl 32 (.tmp 11) (.tmp 57) rfl R0.out [.string us, .string r2, .string n2, .string is, .string ps, .string cs, .string o2, .int .i64 k, .bool g] rfl rfl (lenL9 _ _ _ _ _ _ _ _ _ _ _ _ _ _ _ _ _ _) (sizeL9 _ _ _ _ _ _ _ _ _) (p9_one _ _ _ _ _ _ _ _ _) BA.out (Nat.le_refl _) ?_)
      intro w13 R13 B13 _
      have K7 := Lib.hid (K6.out.below B13.out)
      clear K6 R0 BA B13
      obtain ⟨a0, a1, a2, a3, a4, a5, a6, a7, a8⟩ := R13.out.nine
      obtain ⟨c0, c1, c2, c3, c4, c5, c6, c7, c8⟩ := K7.out.b.nine
      go_wp2_with fail
      refine (awake_any _ (HG.out.below K7.out.bw)).mono ?_
      rintro e w7 ⟨rfl, hb7⟩
      have B9 := Lib.hid (bthen K7.out.bw hb7)
      clear hb7
      go_wp2_with fail
      go_ret
      exact ⟨rfl, B9.out⟩
end Go.Proofs.YtfhbpgickkibmaaDoor
