/-
  InviteserverSteps returns true for every machine, input and time: 'Rows.InviteserverStepsSaid'. No condition.
-/
import Derived.Test.YtgjhnaionalbpaaU
import Derived.Test.YtgjhnaionalbpaaZb
import Derived.Lib.SmallJoins
import Derived.Test.YtgjhnaionalbpaaRows
import Derived.WalkKit
import Derived.ProofKit
import Derived.OpenShut
import Derived.ShutString
namespace Go.Proofs.Ytgjhnaionalbpaa.inviteserverSteps
open Go.ChangeShapes Go.WideShapes Go.ChangeAt Go.RowKit
open Go.ChangeMaps (open_string shut_string)
open Go.Joins
set_option linter.unusedVariables false      -- a walk need not use every 'w<i>' (that an integer argument fits its kind)

theorem own : ownKnob Try.prog.godebug = none := by kernel_rfl

theorem cells26 : Try.prog.cellsOf 26 = 3 := by kernel_rfl
theorem cells45 : Try.prog.cellsOf 45 = 3 := by kernel_rfl
theorem laidOut : laidOutB Try.prog = true := by kernel_rfl
theorem readable : ∀ t ∈ [26, 45, 3], Try.prog.readableRec t = true ∧ t < Try.prog.types.size := by
  intro t ht
  simp only [List.mem_cons, List.not_mem_nil, or_false] at ht
  rcases ht with rfl | rfl | rfl <;> exact ⟨by kernel_rfl, of_decide_eq_true (by kernel_rfl)⟩
/-! ### THE ROW's STEP: WRITTEN OUT: LEAVE IT -/
set_option maxRecDepth 100000 in
theorem lifted (os : Os) (started : os.Started) (H : Type) (enc : TypeId × Value → H) :
    ReturnsInHanded {} Try.checked os 6 .any (Rows.inviteserverStepsSpec.pre6 enc Try.prog Try.f6 Rows.inviteserverStepsRow.domain false) (Rows.inviteserverStepsSpec.post enc Try.prog Try.f6 false true false false) := by
  refine returnsInHanded_of_change (C := Try.checked) own started (by kernel_rfl) Try.func6
    (ChangeSpec.witness6 (enc := enc) (C := Try.checked) false ⟨#[], #[.agg #[.int .u8 0, .int .i64 0, .int .i64 0], .agg #[.int .u8 0, .int .i64 0, .int .u8 0], .int .i64 0], []⟩ 8 (by kernel_rfl) (by kernel_rfl) (by kernel_rfl) (by kernel_rfl)) ?_
  intro W base args ds gs before hval0 hW hcnd _
  have hval : ∀ (j : Nat) t v, Try.f6.params[j]? = some t → args[j]? = some v → Value.okWide Try.prog W .any base t v := hval0
  have hW' := hW
  obtain ⟨p, q, hA0, hV, rfl, hfz, hnd⟩ := hW
  have hA : DataW.TrodAll enc Try.prog W 0 (fun _ => true) true Try.f6.params.toList args.toList ds p := hA0
  rw [Try.params6] at hA hval
  obtain ⟨rfl, rfl⟩ := trodVars_none hV
  simp only [List.append_nil] at hW'
  have hlt : ∀ x ∈ p, x.block < W.heap.size := fun x hx => hW'.lt x hx
  have hAll := hA
  obtain ⟨v0, v1, v2, d0, d1, d2, p0, p1, p2, hargs, rfl, hp, h0, h1, h2⟩ := trodAll_three hA
  obtain ⟨a0, a1, a2, y0, y1, y2, n, rfl, rfl, rfl, g0, g1, g2⟩ := open_agg3 Try.underlying26 (by kernel_rfl) cells26 (hval 0 26 v0 rfl (by rw [← Array.getElem?_toList, hargs]; rfl)) h0
  obtain ⟨b0, b1, b2, z0, z1, z2, n', rfl, rfl, rfl, k0, k1, k2⟩ := open_agg3 Try.underlying45 (by kernel_rfl) cells45 (hval 1 45 v1 rfl (by rw [← Array.getElem?_toList, hargs]; rfl)) h1
  obtain ⟨u, rfl, _, _, _⟩ := open_int Try.underlying3 (hval 2 3 v2 rfl (by rw [← Array.getElem?_toList, hargs]; rfl)) h2
  obtain ⟨s, e0, _, _⟩ := DataW.trod_int Try.underlying24 g0
  obtain ⟨wt, e1, _, _⟩ := DataW.trod_int Try.underlying3 g1
  obtain ⟨c, e2, _, _⟩ := DataW.trod_int Try.underlying3 g2
  obtain ⟨k, f0, _, _⟩ := DataW.trod_int Try.underlying37 k0
  obtain ⟨ic, f1, _, _⟩ := DataW.trod_int Try.underlying3 k1
  obtain ⟨t, f2, _, _⟩ := DataW.trod_int Try.underlying43 k2
  simp only [List.cons.injEq, and_true] at e0 e1 e2 f0 f1 f2
  subst e0 e1 e2 f0 f1 f2
  subst hargs
  refine (steps_law s wt c k ic t u W).mono fun e W' ⟨he, hg⟩ => ?_
  subst he
  exact ⟨_, rfl, post_kept (pa := p) (pv := []) hW' (fun _ _ _ => (trodAll_cons_mk (shut_bool Try.underlying4 _) trodAll_mk0)) (fun sp hsp => trodAll_stays laidOut hg readable hAll hlt hsp) (fun _ _ => rfl) (by simp)
    hg (ok_one (by kernel_rfl) rfl (okWide_bool_mk Try.underlying4 _))⟩

theorem over : Rows.inviteserverStepsRow.holds Try.pinned (OpenSpec.ofChange Rows.inviteserverStepsSpec) :=
  OpenClaim.holds_of_wide 6 Try.f6 rfl rfl rfl rfl rfl rfl rfl ⟨rfl, rfl, rfl, rfl, rfl⟩ rfl rfl rfl rfl rfl (by kernel_rfl) Try.func6 (by kernel_rfl)
    (of_decide_eq_true (by kernel_rfl)) (by unfold Func.isWrapper; first | (rw [if_pos (by decide +kernel)]; kernel_rfl) | (rw [if_neg (by decide +kernel)]; exact ⟨rfl, rfl⟩))
    (fun os started H enc _ => lifted os started H enc)

/-- ████ THE STATEMENT ████ -/
theorem proved : Rows.InviteserverStepsSaid :=
  over
#print axioms proved
end Go.Proofs.Ytgjhnaionalbpaa.inviteserverSteps
