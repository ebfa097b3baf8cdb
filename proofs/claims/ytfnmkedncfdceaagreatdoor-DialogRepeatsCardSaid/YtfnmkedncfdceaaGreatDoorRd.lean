/-
  DialogRepeats returns true for every input; its variables read as the program's text lays them: 'Rows.DialogRepeatsCardSaid'.
-/
import Derived.Test.YtfnmkedncfdceaaGreatDoorKv
import Derived.Test.YtfnmkedncfdceaaGreatDoorYb
import Derived.Test.YtfnmkedncfdceaaGreatDoorYc
import Derived.Test.YtfnmkedncfdceaaGreatDoorTie
import Derived.Test.YtfnmkedncfdceaaGreatDoorCards
set_option linter.unusedVariables false
set_option linter.unusedSimpArgs false
namespace Go.Proofs.YtfnmkedncfdceaaGreatDoor.dialogRepeats
open Go.ChangeShapes Go.WideShapes Go.ChangeAt Go.RowKit
open Go.ChangeMaps (open_string shut_string)
set_option linter.unusedVariables false

theorem readable : ∀ t ∈ ([3, 60, 64] : List TypeId), Tryz.prog.readableRec t = true ∧ t < Tryz.prog.types.size := by
 intro t ht;simp only [List.mem_cons, List.not_mem_nil, or_false] at ht
 rcases ht with rfl | rfl | rfl
 all_goals exact ⟨by kernel_rfl, of_decide_eq_true (by kernel_rfl)⟩
set_option maxRecDepth 100000 in
theorem lifted (os : Os) (started : os.Started) (H : Type) (enc : TypeId × Value → H) :
  ReturnsInHanded {} Tryz.checked os 7 .any (fun w args => (Rows.dialogRepeatsSpec.pre enc Tryz.prog Tryz.f7 [] false w args ∧ laidMetH Tryz.prog LDk w) ∧ sizedMet enc Tryz.prog Tryz.f7 (OpenSpec.ofChange Rows.dialogRepeatsSpec) false w args)
   (Rows.dialogRepeatsSpec.post enc Tryz.prog Tryz.f7 false true false false) := by
 refine ziz (C := Tryz.checked) (X := fun w _ => laidMetH Tryz.prog LDk w) (fun _ _ _ hh h => h.of_heap hh) own started (by kernel_rfl) Tryz.func7
  (ChangeSpec.witness_shaped (enc := enc) (C := Tryz.checked) (os := os) (X := fun w _ => laidMetH Tryz.prog LDk w) false (zkb os) #[.int .i64 0, .agg #[.int .u8 0, .int .i64 0, .int .i64 0], .agg #[.int .u8 0, .int .i64 0, .int .u8 0]] 8 rfl (World.shaped_of_RefB (by kernel_rfl) (by kernel_rfl)) (by kernel_rfl) (by kernel_rfl) (by kernel_rfl) (zl5 os _)) ?_
 intro W base args ds gs before hval0 hW hL hsh;have hval : ∀ (j : Nat) t v, Tryz.f7.params[j]? = some t → args[j]? = some v → Value.okWide Tryz.prog W .any base t v := hval0;have hW' := hW;obtain ⟨p, q, hA0, hV, rfl, hfz, hnd⟩ := hW
 have hA : DataW.TrodAll enc Tryz.prog W 0 (fun _ => true) true Tryz.f7.params.toList args.toList ds p := hA0;rw [Tryz.params7] at hA hval;obtain ⟨rfl, rfl⟩ := trodVars_none hV;simp only [List.append_nil] at hW';have hAll := hA;have hlt : ∀ x ∈ p, x.block < W.heap.size := fun x hx => hW'.lt x hx
 obtain ⟨v0, v1, v2, d0, d1, d2, p0, p1, p2, rfl, rfl, ep, h0, h1, h2⟩ := trodAll_three hA;obtain ⟨cd, rfl, rfl, _, _⟩ := open_int Tryz.underlying3 (hval 0 3 v0 rfl rfl) h0
 obtain ⟨a0, a1, a2, y0, y1, y2, n1, rfl, rfl, rfl, g0, g1, g2⟩ := Go.Joins.open_agg3 Tryz.underlying60 (by kernel_rfl) (show Tryz.prog.cellsOf 60 = 3 by kernel_rfl) (hval 1 60 v1 rfl rfl) h1
 obtain ⟨b0, b1, b2, z0, z1, z2, n2, rfl, rfl, rfl, k0, k1, k2⟩ := Go.Joins.open_agg3 Tryz.underlying64 (by kernel_rfl) (show Tryz.prog.cellsOf 64 = 3 by kernel_rfl) (hval 2 64 v2 rfl rfl) h2;obtain ⟨st, e0, _, _⟩ := DataW.trod_int Tryz.underlying58 g0
 obtain ⟨wt, e1, _, _⟩ := DataW.trod_int Tryz.underlying3 g1;obtain ⟨co, e2, _, _⟩ := DataW.trod_int Tryz.underlying3 g2;obtain ⟨k, f0, _, _⟩ := DataW.trod_int Tryz.underlying61 k0;obtain ⟨ic, f1, _, _⟩ := DataW.trod_int Tryz.underlying3 k1;obtain ⟨t, f2, _, _⟩ := DataW.trod_int Tryz.underlying62 k2
 simp only [List.cons.injEq, and_true] at e0 e1 e2 f0 f1 f2;subst e0 e1 e2 f0 f1 f2;refine (yfh cd ⟨st, wt, co⟩ k ic t W (zyi hL hsh)).mono fun e W' ⟨he, hg⟩ => ?_;subst he
 exact ⟨_, rfl, zn6 (pa := p) (pv := []) hW' (fun _ _ _ => (trodAll_cons_mk (shut_bool Tryz.underlying4 _) trodAll_mk0)) (fun sp hsp => ze6 zwn hg readable hAll hlt hsp) (fun _ _ => rfl) (by simp)
  hg (ok_one (by kernel_rfl) rfl (okWide_bool_mk Tryz.underlying4 _))⟩

theorem closedJ : joinedFacts Tryz.checked.prog 7 Tryz.f7 Rows.dialogRepeatsSpec Rows.dialogRepeatsRow = true := by
 unfold joinedFacts;rw [mayE, liftF, makeE]
 kernel_rfl
theorem inst : Tryz.f7.isInstance Tryz.checked.prog Rows.dialogRepeatsRow.origin Rows.dialogRepeatsRow.targs := of_decide_eq_true (by kernel_rfl)
theorem wrap : Tryz.f7.isWrapper Tryz.checked.prog Rows.dialogRepeatsRow.wrapper Rows.dialogRepeatsRow.mainSum := by unfold Func.isWrapper; first | (rw [if_pos (by decide +kernel)]; kernel_rfl) | (rw [if_neg (by decide +kernel)]; exact ⟨rfl, rfl⟩)
theorem over : Rows.dialogRepeatsRow.holds Tryz.pinned (OpenSpec.ofChange Rows.dialogRepeatsSpec) :=
 OpenClaim.holds_of_wide 7 Tryz.f7 rfl rfl rfl rfl rfl rfl rfl ⟨rfl, rfl, rfl, rfl, rfl⟩ rfl rfl rfl rfl rfl (by kernel_rfl) Tryz.func7 closedJ inst wrap
  (fun os started H enc _ => lifted os started H enc)

theorem proved : Rows.DialogRepeatsCardSaid :=
 Claim7.holds_tied_plain_at .later [] _ _ _ _
  over (fun _ h => by cases h) (by kernel_rfl) (fun _ h => by cases h) dialogRepeats_row_tie rfl ⟨rfl, rfl⟩ mainE rfl
  (fun f fn hf hfn => by
    obtain rfl : f = 7 := Option.some.inj ((show Tryz.prog.funcNamed "dialtone/dialtonelaw17.DialogRepeats" = some 7 by kernel_rfl).symm.trans hf) |>.symm;obtain rfl : fn = Tryz.f7 := (Option.some.inj (Tryz.func7.symm.trans hfn)).symm
    exact ⟨by kernel_rfl, fun j t ht => by
     rw [Tryz.params7] at ht
     have hm : t ∈ ([3, 60, 64] : List TypeId) := by simpa using Array.mem_of_getElem? ht
     have hall : (([3, 60, 64] : List TypeId).all fun u => !Tryz.prog.wantsStandIn u) = true := by kernel_rfl
     exact (show Tryz.prog.wantsStandIn t = false by simpa using List.all_eq_true.1 hall t hm)⟩)
  (by kernel_rfl)
#print axioms proved
end Go.Proofs.YtfnmkedncfdceaaGreatDoor.dialogRepeats
