/-
  DialogEnds returns true for every input; its variables read as the program's text lays them: 'Rows.DialogEndsCardSaid'.
-/
import Derived.Test.YtfnmkedncfdceaaGreatDoorKp
import Derived.Test.YtfnmkedncfdceaaGreatDoorYb
import Derived.Test.YtfnmkedncfdceaaGreatDoorYc
import Derived.Test.YtfnmkedncfdceaaGreatDoorTie
import Derived.Test.YtfnmkedncfdceaaGreatDoorCards
set_option linter.unusedVariables false
set_option linter.unusedSimpArgs false
namespace Go.Proofs.YtfnmkedncfdceaaGreatDoor.dialogEnds
open Go.ChangeShapes Go.WideShapes Go.ChangeAt Go.RowKit
open Go.ChangeMaps (open_string shut_string)
set_option linter.unusedVariables false

theorem readable : ∀ t ∈ ([54, 5] : List TypeId), Tryz.prog.readableRec t = true ∧ t < Tryz.prog.types.size := by
 intro t ht;simp only [List.mem_cons, List.not_mem_nil, or_false] at ht
 rcases ht with rfl | rfl
 all_goals exact ⟨by kernel_rfl, of_decide_eq_true (by kernel_rfl)⟩
set_option maxRecDepth 100000 in
theorem lifted (os : Os) (started : os.Started) (H : Type) (enc : TypeId × Value → H) :
  ReturnsInHanded {} Tryz.checked os 6 .any (fun w args => (Rows.dialogEndsSpec.pre enc Tryz.prog Tryz.f6 [] false w args ∧ laidMetH Tryz.prog LDk w) ∧ sizedMet enc Tryz.prog Tryz.f6 (OpenSpec.ofChange Rows.dialogEndsSpec) false w args)
   (Rows.dialogEndsSpec.post enc Tryz.prog Tryz.f6 false true false false) := by
 refine ziz (C := Tryz.checked) (X := fun w _ => laidMetH Tryz.prog LDk w) (fun _ _ _ hh h => h.of_heap hh) own started (by kernel_rfl) Tryz.func6
  (ChangeSpec.witness_shaped (enc := enc) (C := Tryz.checked) (os := os) (X := fun w _ => laidMetH Tryz.prog LDk w) false (zkb os) #[.int .u16 0, .int .u8 0] 8 rfl (World.shaped_of_RefB (by kernel_rfl) (by kernel_rfl)) (by kernel_rfl) (by kernel_rfl) (by kernel_rfl) (zl5 os _)) ?_
 intro W base args ds gs before hval0 hW hL hsh;have hval : ∀ (j : Nat) t v, Tryz.f6.params[j]? = some t → args[j]? = some v → Value.okWide Tryz.prog W .any base t v := hval0;have hW' := hW;obtain ⟨p, q, hA0, hV, rfl, hfz, hnd⟩ := hW
 have hA : DataW.TrodAll enc Tryz.prog W 0 (fun _ => true) true Tryz.f6.params.toList args.toList ds p := hA0;rw [Tryz.params6] at hA hval;obtain ⟨rfl, rfl⟩ := trodVars_none hV;simp only [List.append_nil] at hW';have hAll := hA;have hlt : ∀ x ∈ p, x.block < W.heap.size := fun x hx => hW'.lt x hx
 obtain ⟨v0, v1, d0, d1, p0, p1, rfl, rfl, ep, h0, h1⟩ := trodAll_two hA;obtain ⟨x0, rfl, rfl, _, hx⟩ := open_int Tryz.underlying54 (hval 0 54 v0 rfl rfl) h0
 obtain ⟨lx, ux⟩ : 0 ≤ x0 ∧ x0 ≤ 65535 := by
  simp [Lit.wf, IntKind.min, IntKind.max, IntKind.signed, IntKind.bits] at hx;omega
 obtain ⟨x, rfl⟩ : ∃ n : Nat, x0 = (n : Int) := ⟨x0.toNat, by omega⟩;obtain ⟨y0, rfl, rfl, _, hy⟩ := open_int Tryz.underlying5 (hval 1 5 v1 rfl rfl) h1
 obtain ⟨ly, uy⟩ : 0 ≤ y0 ∧ y0 ≤ 255 := by
  simp [Lit.wf, IntKind.min, IntKind.max, IntKind.signed, IntKind.bits] at hy;omega
 obtain ⟨y, rfl⟩ : ∃ n : Nat, y0 = (n : Int) := ⟨y0.toNat, by omega⟩;refine (yae x y (by omega) (by omega) W (zyi hL hsh)).mono fun e W' ⟨he, hg⟩ => ?_;subst he
 exact ⟨_, rfl, zn6 (pa := p) (pv := []) hW' (fun _ _ _ => (trodAll_cons_mk (shut_bool Tryz.underlying4 _) trodAll_mk0)) (fun sp hsp => ze6 zwn hg readable hAll hlt hsp) (fun _ _ => rfl) (by simp)
  hg (ok_one (by kernel_rfl) rfl (okWide_bool_mk Tryz.underlying4 _))⟩

theorem closedJ : joinedFacts Tryz.checked.prog 6 Tryz.f6 Rows.dialogEndsSpec Rows.dialogEndsRow = true := by
 unfold joinedFacts;rw [mayE, liftF, makeE]
 kernel_rfl
theorem inst : Tryz.f6.isInstance Tryz.checked.prog Rows.dialogEndsRow.origin Rows.dialogEndsRow.targs := of_decide_eq_true (by kernel_rfl)
theorem wrap : Tryz.f6.isWrapper Tryz.checked.prog Rows.dialogEndsRow.wrapper Rows.dialogEndsRow.mainSum := by unfold Func.isWrapper; first | (rw [if_pos (by decide +kernel)]; kernel_rfl) | (rw [if_neg (by decide +kernel)]; exact ⟨rfl, rfl⟩)
theorem over : Rows.dialogEndsRow.holds Tryz.pinned (OpenSpec.ofChange Rows.dialogEndsSpec) :=
 OpenClaim.holds_of_wide 6 Tryz.f6 rfl rfl rfl rfl rfl rfl rfl ⟨rfl, rfl, rfl, rfl, rfl⟩ rfl rfl rfl rfl rfl (by kernel_rfl) Tryz.func6 closedJ inst wrap
  (fun os started H enc _ => lifted os started H enc)

theorem proved : Rows.DialogEndsCardSaid :=
 Claim7.holds_tied_plain_at .later [] _ _ _ _
  over (fun _ h => by cases h) (by kernel_rfl) (fun _ h => by cases h) dialogEnds_row_tie rfl ⟨rfl, rfl⟩ mainE rfl
  (fun f fn hf hfn => by
    obtain rfl : f = 6 := Option.some.inj ((show Tryz.prog.funcNamed "dialtone/dialtonelaw17.DialogEnds" = some 6 by kernel_rfl).symm.trans hf) |>.symm;obtain rfl : fn = Tryz.f6 := (Option.some.inj (Tryz.func6.symm.trans hfn)).symm
    exact ⟨by kernel_rfl, fun j t ht => by
     rw [Tryz.params6] at ht
     have hm : t ∈ ([54, 5] : List TypeId) := by simpa using Array.mem_of_getElem? ht
     have hall : (([54, 5] : List TypeId).all fun u => !Tryz.prog.wantsStandIn u) = true := by kernel_rfl
     exact (show Tryz.prog.wantsStandIn t = false by simpa using List.all_eq_true.1 hall t hm)⟩)
  (by kernel_rfl)
#print axioms proved
end Go.Proofs.YtfnmkedncfdceaaGreatDoor.dialogEnds
