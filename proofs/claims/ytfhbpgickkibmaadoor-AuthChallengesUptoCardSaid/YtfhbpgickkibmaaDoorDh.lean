/- Contract: the law AuthChallenges. -/
import Derived.Test.YtfhbpgickkibmaaDoorDg
namespace Go.Proofs.YtfhbpgickkibmaaDoor
open Go.RowKit

theorem chV_form (X : Except Int Ch) : ∃ a b c i s k, chV X = .tuple #[.agg #[.string a, .string b, .string c, .bool i, .bool s], .int .u8 k] := by
  cases X
  · exact ⟨_, _, _, _, _, _, rfl⟩
  · exact ⟨_, _, _, _, _, _, rfl⟩
set_option maxRecDepth 100000 in
set_option maxHeartbeats 2000000 in
theorem challenges_any (s rs ns os : ByteArray) (i st : Bool) (w : World) (hs : s.size ≤ 4000000) (hr : rs.size ≤ 4000000) (hn : ns.size ≤ 4000000) (ho : os.size ≤ 4000000) (hm : GM w) :
    Calls Tryd.prog 3 #[.string s, .agg #[.string rs, .string ns, .string os, .bool i, .bool st]] w fun e w' => e = .returned (.bool true) ∧ Below w.heap.size w w' := by
  obtain ⟨a, b, c, j, t, k, hV⟩ := chV_form (parseCh (byteL s))
  obtain ⟨pa, pk, hP⟩ := prV_form (printCh ⟨byteL rs, byteL ns, byteL os, i, st⟩)
  have HV := Lib.hid hV; have HP := Lib.hid hP
  clear hV hP
  have RB := Lib.hid (Row.new w 23 [.string rs, .string ns, .string os, .bool i, .bool st])
  have B0 := Lib.hid ((Below.refl w.heap.size w).alloc (Nat.le_refl _) (.cells #[.string rs, .string ns, .string os, .bool i, .bool st] 23))
  have HG := Lib.hid hm
  have g0 := hm.below B0.out
  clear hm
  go_enter Tryd.func3, Tryd.ntmps3
  go_wp2_with fail
  refine (parsech_any s _ hs g0).mono ?_
  rintro e w1 ⟨rfl, hb1⟩
  clear g0
  have RB1 := Lib.hid (RB.out.below hb1)
  have B1 := Lib.hid (bthen B0.out hb1)
  clear hb1 RB B0
  rw [HV.out]
  have R0 := Lib.hid (Row.new w1 23 Z5)
  have BA := Lib.hid ((Below.refl w1.heap.size w1).alloc (Nat.le_refl _) (.cells Z5.toArray 23))
  go_wp2_with (with_reducible refine wpList_storeR rfl 23 (.tmp 5) (.tmp 16) rfl R0.out [.string a, .string b, .string c, .bool j, .bool t] rfl rfl (lenL5 _ _ _ _ _ _ _ _ _ _) (sizeL5 _ _ _ _ _) (p5_one _ _ _ _ _) BA.out (Nat.le_refl _) ?_)
  intro w2 R2 B2 _
  have RB2 := Lib.hid (RB1.out.below B2.out)
  have B3 := Lib.hid (bthen B1.out B2.out)
  clear R0 BA RB1 B1 B2
  go_wp2_with fail
  refine (refparsech_any s _ hs).mono ?_
  rintro e w3 ⟨rfl, hb3⟩
  have R3 := Lib.hid (R2.out.below hb3)
  have RB3 := Lib.hid (RB2.out.below hb3)
  have B4 := Lib.hid (bthen B3.out hb3)
  clear hb3 R2 RB2 B3
  rw [HV.out]
  have R0 := Lib.hid (Row.new w3 23 Z5)
  have BA := Lib.hid ((Below.refl w3.heap.size w3).alloc (Nat.le_refl _) (.cells Z5.toArray 23))
  go_wp2_with (with_reducible refine wpList_storeR rfl 23 (.tmp 7) (.tmp 21) rfl R0.out [.string a, .string b, .string c, .bool j, .bool t] rfl rfl (lenL5 _ _ _ _ _ _ _ _ _ _) (sizeL5 _ _ _ _ _) (p5_one _ _ _ _ _) BA.out (Nat.le_refl _) ?_)
  intro w4 R4 B5 _
  have R5 := Lib.hid (R3.out.below B5.out)
  have RB4 := Lib.hid (RB3.out.below B5.out)
  have B6 := Lib.hid (bthen B4.out B5.out)
  clear R0 BA R3 RB3 B4 B5
  go_wp2_with (with_reducible refine wpList_loadR rfl 23 (.tmp 3) rfl RB4.out rfl Tryd.underlying23 rfl (sizeL5 _ _ _ _ _) ?_)
  refine (printch_any rs ns os i st _ hr hn ho).mono ?_
  rintro e w5 ⟨rfl, hb5⟩
  have R6 := Lib.hid (R5.out.below hb5)
  have R7 := Lib.hid (R4.out.below hb5)
  have RB5 := Lib.hid (RB4.out.below hb5)
  have B7 := Lib.hid (bthen B6.out hb5)
  clear hb5 R5 R4 RB4 B6
  rw [HP.out]
  go_wp2_with (with_reducible refine wpList_loadR rfl 23 (.tmp 3) rfl RB5.out rfl Tryd.underlying23 rfl (sizeL5 _ _ _ _ _) ?_)
  refine (refprintch_any rs ns os i st _ hr hn ho).mono ?_
  rintro e w6 ⟨rfl, hb6⟩
  have R8 := Lib.hid (R6.out.below hb6)
  have R9 := Lib.hid (R7.out.below hb6)
  have B8 := Lib.hid (bthen B7.out hb6)
  clear hb6 R6 R7 RB5 B7
  rw [HP.out]
  have hgd := guard5
  have hsm := same5
  have hse : ∀ (xs ys : Array Value) (w : World), (binOp .eql 23 (.agg xs) (.agg ys)).run Tryd.prog w = ((Op.equalIn 10000 23 (.agg xs) (.agg ys)).run Tryd.prog w).andThen fun b w' => .ok (.bool b) w' := fun xs ys w => run_eql_struct w _ xs ys
  have g6 := HG.out.below B8.out
  go_wp2_with (first
    | (with_reducible refine wpList_loadR rfl 23 (.tmp 5) rfl R8.out rfl Tryd.underlying23 rfl (sizeL5 _ _ _ _ _) ?_)
    | (with_reducible refine wpList_loadR rfl 23 (.tmp 7) rfl R9.out rfl Tryd.underlying23 rfl (sizeL5 _ _ _ _ _) ?_))
  refine (awake_any _ g6).mono ?_
  rintro e w7 ⟨rfl, hb7⟩
  have B9 := Lib.hid (bthen B8.out hb7)
  clear hb7
  go_wp2_with fail
  go_ret
  exact ⟨rfl, B9.out⟩
end Go.Proofs.YtfhbpgickkibmaaDoor
