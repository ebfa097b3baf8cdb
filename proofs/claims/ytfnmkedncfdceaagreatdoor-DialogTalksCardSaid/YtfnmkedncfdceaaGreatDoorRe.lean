/-
  DialogTalks returns true for every input; its variables read as the program's text lays them: 'Rows.DialogTalksCardSaid'.
-/
import Derived.Test.YtfnmkedncfdceaaGreatDoorYq
import Derived.Test.YtfnmkedncfdceaaGreatDoorYb
import Derived.Test.YtfnmkedncfdceaaGreatDoorYc
import Derived.Test.YtfnmkedncfdceaaGreatDoorTie
import Derived.Test.YtfnmkedncfdceaaGreatDoorCards
set_option linter.unusedVariables false
set_option linter.unusedSimpArgs false
namespace Go.Proofs.YtfnmkedncfdceaaGreatDoor.dialogTalks
open Go.ChangeShapes Go.WideShapes Go.ChangeAt Go.RowKit
open Go.ChangeMaps (open_string shut_string)
set_option linter.unusedVariables false

theorem readable : ∀ t ∈ ([29] : List TypeId), Tryz.prog.readableRec t = true ∧ t < Tryz.prog.types.size := by
 intro t ht;simp only [List.mem_cons, List.not_mem_nil, or_false] at ht
 rcases ht with rfl
 all_goals exact ⟨by kernel_rfl, of_decide_eq_true (by kernel_rfl)⟩
set_option maxRecDepth 100000 in
theorem lifted (os : Os) (started : os.Started) (H : Type) (enc : TypeId × Value → H) :
  ReturnsInHanded {} Tryz.checked os 5 .any (fun w args => (Rows.dialogTalksSpec.pre enc Tryz.prog Tryz.f5 [] false w args ∧ laidMetH Tryz.prog LDk w) ∧ sizedMet enc Tryz.prog Tryz.f5 (OpenSpec.ofChange Rows.dialogTalksSpec) false w args)
   (Rows.dialogTalksSpec.post enc Tryz.prog Tryz.f5 false true false false) := by
 refine ziz (C := Tryz.checked) (X := fun w _ => laidMetH Tryz.prog LDk w) (fun _ _ _ hh h => h.of_heap hh) own started (by kernel_rfl) Tryz.func5
  (ChangeSpec.witness_shaped (enc := enc) (C := Tryz.checked) (os := os) (X := fun w _ => laidMetH Tryz.prog LDk w) false (zkb os) #[.slice none 0 0] 8 rfl (World.shaped_of_RefB (by kernel_rfl) (by kernel_rfl)) (by kernel_rfl) (by kernel_rfl) (by kernel_rfl) (zl5 os _)) ?_
 intro W base args ds gs before hval0 hW hL hsh;have hval : ∀ (j : Nat) t v, Tryz.f5.params[j]? = some t → args[j]? = some v → Value.okWide Tryz.prog W .any base t v := hval0;have hW' := hW;obtain ⟨p, q, hA0, hV, rfl, hfz, hnd⟩ := hW
 have hA : DataW.TrodAll enc Tryz.prog W 0 (fun _ => true) true Tryz.f5.params.toList args.toList ds p := hA0;rw [Tryz.params5] at hA hval;obtain ⟨rfl, rfl⟩ := trodVars_none hV;simp only [List.append_nil] at hW';have hAll := hA;have hlt : ∀ x ∈ p, x.block < W.heap.size := fun x hx => hW'.lt x hx
 obtain ⟨v0, d0, rfl, rfl, h0⟩ := trodAll_one hA;obtain ⟨C, cn, cc, rfl, hC⟩ := ygq (hval 0 29 v0 rfl rfl) h0;refine (yf3 C cn cc W hC (zyi hL hsh)).mono fun e W' ⟨he, hg⟩ => ?_;subst he
 exact ⟨_, rfl, zn6 (pa := p) (pv := []) hW' (fun _ _ _ => (trodAll_cons_mk (shut_bool Tryz.underlying4 _) trodAll_mk0)) (fun sp hsp => ze6 zwn hg readable hAll hlt hsp) (fun _ _ => rfl) (by simp)
  hg (ok_one (by kernel_rfl) rfl (okWide_bool_mk Tryz.underlying4 _))⟩

theorem closedJ : joinedFacts Tryz.checked.prog 5 Tryz.f5 Rows.dialogTalksSpec Rows.dialogTalksRow = true := by
 unfold joinedFacts;rw [mayE, liftF, makeE]
 kernel_rfl
theorem inst : Tryz.f5.isInstance Tryz.checked.prog Rows.dialogTalksRow.origin Rows.dialogTalksRow.targs := of_decide_eq_true (by kernel_rfl)
theorem wrap : Tryz.f5.isWrapper Tryz.checked.prog Rows.dialogTalksRow.wrapper Rows.dialogTalksRow.mainSum := by unfold Func.isWrapper; first | (rw [if_pos (by decide +kernel)]; kernel_rfl) | (rw [if_neg (by decide +kernel)]; exact ⟨rfl, rfl⟩)
theorem over : Rows.dialogTalksRow.holds Tryz.pinned (OpenSpec.ofChange Rows.dialogTalksSpec) :=
 OpenClaim.holds_of_wide 5 Tryz.f5 rfl rfl rfl rfl rfl rfl rfl ⟨rfl, rfl, rfl, rfl, rfl⟩ rfl rfl rfl rfl rfl (by kernel_rfl) Tryz.func5 closedJ inst wrap
  (fun os started H enc _ => lifted os started H enc)

theorem proved : Rows.DialogTalksCardSaid :=
 Claim7.holds_tied_plain_at .later [] _ _ _ _
  over (fun _ h => by cases h) (by kernel_rfl) (fun _ h => by cases h) dialogTalks_row_tie rfl ⟨rfl, rfl⟩ mainE rfl
  (fun f fn hf hfn => by
    obtain rfl : f = 5 := Option.some.inj ((show Tryz.prog.funcNamed "dialtone/dialtonelaw17.DialogTalks" = some 5 by kernel_rfl).symm.trans hf) |>.symm;obtain rfl : fn = Tryz.f5 := (Option.some.inj (Tryz.func5.symm.trans hfn)).symm
    exact ⟨by kernel_rfl, fun j t ht => by
     rw [Tryz.params5] at ht
     have hm : t ∈ ([29] : List TypeId) := by simpa using Array.mem_of_getElem? ht
     have hall : (([29] : List TypeId).all fun u => !Tryz.prog.wantsStandIn u) = true := by kernel_rfl
     exact (show Tryz.prog.wantsStandIn t = false by simpa using List.all_eq_true.1 hall t hm)⟩)
  (by kernel_rfl)
#print axioms proved
end Go.Proofs.YtfnmkedncfdceaaGreatDoor.dialogTalks
