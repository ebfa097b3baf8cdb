/-
  DialogKnown returns true for every input; its variables read as the program's text lays them: 'Rows.DialogKnownCardSaid'.
-/
import Derived.Test.YtfnmkedncfdceaaGreatDoorKq
import Derived.Test.YtfnmkedncfdceaaGreatDoorYb
import Derived.Test.YtfnmkedncfdceaaGreatDoorYc
import Derived.Test.YtfnmkedncfdceaaGreatDoorTie
import Derived.Test.YtfnmkedncfdceaaGreatDoorCards
set_option linter.unusedVariables false
set_option linter.unusedSimpArgs false
namespace Go.Proofs.YtfnmkedncfdceaaGreatDoor.dialogKnown
open Go.ChangeShapes Go.WideShapes Go.ChangeAt Go.RowKit
open Go.ChangeMaps (open_string shut_string)
set_option linter.unusedVariables false

theorem readable : ∀ t ∈ ([] : List TypeId), Tryz.prog.readableRec t = true ∧ t < Tryz.prog.types.size := fun t ht => by cases ht
set_option maxRecDepth 100000 in
theorem lifted (os : Os) (started : os.Started) (H : Type) (enc : TypeId × Value → H) :
  ReturnsInHanded {} Tryz.checked os 9 .any (fun w args => (Rows.dialogKnownSpec.pre enc Tryz.prog Tryz.f9 [] false w args ∧ laidMetH Tryz.prog LDk w) ∧ sizedMet enc Tryz.prog Tryz.f9 (OpenSpec.ofChange Rows.dialogKnownSpec) false w args)
   (Rows.dialogKnownSpec.post enc Tryz.prog Tryz.f9 false true false false) := by
 refine ziz (C := Tryz.checked) (X := fun w _ => laidMetH Tryz.prog LDk w) (fun _ _ _ hh h => h.of_heap hh) own started (by kernel_rfl) Tryz.func9
  (ChangeSpec.witness_shaped (enc := enc) (C := Tryz.checked) (os := os) (X := fun w _ => laidMetH Tryz.prog LDk w) false (zkb os) #[] 8 rfl (World.shaped_of_RefB (by kernel_rfl) (by kernel_rfl)) (by kernel_rfl) (by kernel_rfl) (by kernel_rfl) (zl5 os _)) ?_
 intro W base args ds gs before hval0 hW hL hsh;have hval : ∀ (j : Nat) t v, Tryz.f9.params[j]? = some t → args[j]? = some v → Value.okWide Tryz.prog W .any base t v := hval0;have hW' := hW;obtain ⟨p, q, hA0, hV, rfl, hfz, hnd⟩ := hW
 have hA : DataW.TrodAll enc Tryz.prog W 0 (fun _ => true) true Tryz.f9.params.toList args.toList ds p := hA0;rw [Tryz.params9] at hA hval;obtain ⟨rfl, rfl⟩ := trodVars_none hV;simp only [List.append_nil] at hW';obtain ⟨rfl, rfl, rfl⟩ := trodAll_none hA
 refine (yff W (zyi hL hsh)).mono fun e W' ⟨he, hg⟩ => ?_;subst he
 exact ⟨_, rfl, zn6 (pa := []) (pv := []) hW' (fun _ _ _ => (trodAll_cons_mk (shut_bool Tryz.underlying4 _) trodAll_mk0)) (fun sp _ => rfl) (fun _ _ => rfl) rfl
  hg (ok_one (by kernel_rfl) rfl (okWide_bool_mk Tryz.underlying4 _))⟩

theorem closedJ : joinedFacts Tryz.checked.prog 9 Tryz.f9 Rows.dialogKnownSpec Rows.dialogKnownRow = true := by
 unfold joinedFacts;rw [mayE, liftF, makeE]
 kernel_rfl
theorem inst : Tryz.f9.isInstance Tryz.checked.prog Rows.dialogKnownRow.origin Rows.dialogKnownRow.targs := of_decide_eq_true (by kernel_rfl)
theorem wrap : Tryz.f9.isWrapper Tryz.checked.prog Rows.dialogKnownRow.wrapper Rows.dialogKnownRow.mainSum := by unfold Func.isWrapper; first | (rw [if_pos (by decide +kernel)]; kernel_rfl) | (rw [if_neg (by decide +kernel)]; exact ⟨rfl, rfl⟩)
theorem over : Rows.dialogKnownRow.holds Tryz.pinned (OpenSpec.ofChange Rows.dialogKnownSpec) :=
 OpenClaim.holds_of_wide 9 Tryz.f9 rfl rfl rfl rfl rfl rfl rfl ⟨rfl, rfl, rfl, rfl, rfl⟩ rfl rfl rfl rfl rfl (by kernel_rfl) Tryz.func9 closedJ inst wrap
  (fun os started H enc _ => lifted os started H enc)

theorem proved : Rows.DialogKnownCardSaid :=
 Claim7.holds_tied_plain_at .later [] _ _ _ _
  over (fun _ h => by cases h) (by kernel_rfl) (fun _ h => by cases h) dialogKnown_row_tie rfl ⟨rfl, rfl⟩ mainE rfl
  (fun f fn hf hfn => by
    obtain rfl : f = 9 := Option.some.inj ((show Tryz.prog.funcNamed "dialtone/dialtonelaw17.DialogKnown" = some 9 by kernel_rfl).symm.trans hf) |>.symm;obtain rfl : fn = Tryz.f9 := (Option.some.inj (Tryz.func9.symm.trans hfn)).symm
    exact ⟨by kernel_rfl, fun j t ht => by
     rw [Tryz.params9] at ht
     have hm : t ∈ ([] : List TypeId) := by simp at ht
     have hall : (([] : List TypeId).all fun u => !Tryz.prog.wantsStandIn u) = true := by kernel_rfl
     exact (show Tryz.prog.wantsStandIn t = false by simpa using List.all_eq_true.1 hall t hm)⟩)
  (by kernel_rfl)
#print axioms proved
end Go.Proofs.YtfnmkedncfdceaaGreatDoor.dialogKnown
