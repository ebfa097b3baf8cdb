/- The last step of a row whose call leaves all that was there: 'Below' at the heap's size takes the place of 'the frozen marks are as they were'. Arguments that are only read read behind the call as they read before it: whatever their types. What the rows of this seat share: the arguments opened, the listed variables laid, MaxLen's number out of the world's shape. More of what the rows share: the listed variables of the laws that hash; bytes opened. -/
import Derived.Below
import Derived.ChangeSame
import Derived.ProofKit
import Derived.WalkKit
import Derived.Test.YtfhbpgickkibmaaGreatDoorMc
import Derived.Test.YtfhbpgickkibmaaGreatDoorLb
import Derived.Test.YtfhbpgickkibmaaGreatDoorRows
import Derived.LaidMore
import Derived.OpenShut
import Derived.ShutString
import Derived.Stop.Joined
import Derived.Shelf.Vars
import Derived.Deep.DeepHandedRow
import Derived.Test.YtfhbpgickkibmaaGreatDoorGh
import Derived.Lib.LaidTab
import Derived.Stop.LaidErr
namespace Go.Proofs.YtfhbpgickkibmaaGreatDoor
open Go.RowKit Go.WideShapes Go.ChangeShapes

section
variable {H : Type} {enc : TypeId × Value → H} {P : Program}
theorem post_kept {f : Func} {s : ChangeSpec} {apart fresh handsOn again : Bool} {W W' : World} {args : Array Value} {v : Value} {ds gs : List (DataW H)} {before pa pv : List MemPlace}
    (hW : DataW.Whole enc P f.params.toList s.vars apart W args.toList ds gs before)
    (hres : ∀ (b : Nat) (sp : Nat → Bool) (hd : Bool), DataW.TrodAll enc P W' b sp hd f.resultTypes.toList (v.resultList f.resultTypes.size) (s.fn H (ds ++ gs)).results [])
    (hargs : ∀ sp : Nat → Bool, (∀ p ∈ before, sp p.block = true) → DataW.TrodAll enc P W' 0 sp true f.params.toList args.toList (s.fn H (ds ++ gs)).args pa)
    (hvars : ∀ sp : Nat → Bool, (∀ p ∈ before, sp p.block = true) → DataW.TrodVars enc P W' sp s.vars (s.fn H (ds ++ gs)).vars pv)
    (hps : before = pa ++ pv) (hb : Below W.heap.size W W')
    (hok : ∀ (j : Nat) (t : TypeId) (r : Value), f.resultTypes[j]? = some t → (v.resultList f.resultTypes.size)[j]? = some r → Value.okWide P W' .any 0 t r) :
    s.post enc P f apart fresh handsOn again W args v W' := by
  have hlt : ∀ p ∈ before, p.block < W.heap.size := fun p hp => hW.lt p hp
  have hold : ∀ p ∈ before, (fun b => decide (b < W.heap.size)) p.block = true := fun p hp => by simpa using hlt p hp
  refine ⟨ds, gs, before, [], pa, pv, hW, hres _ _ _, hargs _ hold, hvars _ hold, World.keptBut_mono (fun p hp => ⟨hp, ?_⟩) (hb.frame (· ∈ before)), fun _ => ?_⟩
  · rw [hps, List.mem_append] at hp
    exact Or.inr hp
  · obtain ⟨_, _, _, _, _, hz, hn⟩ := hW
    refine ⟨hok, _, _, ([] ++ pa) ++ pv, ⟨[] ++ pa, pv, trodAll_append (hargs _ (fun _ _ => rfl)) (hres _ _ _), hvars _ (fun _ _ => rfl), rfl, ?_, ?_⟩, ?_⟩
    · intro b off hp
      have hin : MemPlace.cell b off ∈ before := by rw [hps]; simpa using hp
      rw [hb.frozen (hlt _ hin)]
      exact hz b off hin
    · intro ha
      have := hn ha
      rw [hps] at this
      simpa using this
    · intro p hp _
      rw [hps]
      simpa using hp
end
end Go.Proofs.YtfhbpgickkibmaaGreatDoor
namespace Go.Proofs.YtfhbpgickkibmaaGreatDoor
open Go.RowKit Go.WideShapes Go.ChangeShapes

theorem trodAll_stays {H : Type} {enc : TypeId × Value → H} {P : Program} (hl : laidOutB P = true) {W W' : World} (hb : Below W.heap.size W W') {sp : Nat → Bool} :
    ∀ {ts : List TypeId} {vs : List Value} {ds : List (DataW H)} {ps : List MemPlace}, (∀ t ∈ ts, P.readableRec t = true ∧ t < P.types.size) → DataW.TrodAll enc P W 0 (fun _ => true) true ts vs ds ps → (∀ x ∈ ps, x.block < W.heap.size) → (∀ x ∈ ps, sp x.block = true) →
    DataW.TrodAll enc P W' 0 sp true ts vs ds ps
  | [], [], [], _, _, h, _, _ => h
  | t :: ts, v :: vs, d :: ds, _, hT, ⟨p, q, h1, h2, e⟩, hlt, hs => by
    subst e
    refine ⟨p, q, ?_, ?_, rfl⟩
    · exact WideElems.Trod_stays hl (hT t (by simp)).1 (hT t (by simp)).2 h1 (fun x hx => hb.same (hlt x (List.mem_append_left _ hx))) (fun x hx => hs x (List.mem_append_left _ hx))
    · exact trodAll_stays hl hb (fun t ht => hT t (by simp [ht])) h2 (fun x hx => hlt x (List.mem_append_right _ hx)) (fun x hx => hs x (List.mem_append_right _ hx))
  | [], [], _ :: _, _, _, h, _, _ => h.elim
  | [], _ :: _, _, _, _, h, _, _ => h.elim
  | _ :: _, [], _, _, _, h, _, _ => h.elim
  | _ :: _, _ :: _, [], _, _, h, _, _ => h.elim
end Go.Proofs.YtfhbpgickkibmaaGreatDoor
namespace Go.Proofs.YtfhbpgickkibmaaGreatDoor
open Go.ChangeShapes Go.WideShapes Go.ChangeAt Go.RowKit
open Go.ChangeMaps (open_string shut_string)

theorem own : ownKnob Tryz.prog.godebug = none := by kernel_rfl
theorem laidOut : laidOutB Tryz.prog = true := by kernel_rfl
theorem readable : ∀ t ∈ [9, 36, 23], Tryz.prog.readableRec t = true ∧ t < Tryz.prog.types.size := by
  intro t ht
  simp only [List.mem_cons, List.not_mem_nil, or_false] at ht
  rcases ht with rfl | rfl | rfl
  all_goals exact ⟨by kernel_rfl, of_decide_eq_true (by kernel_rfl)⟩
def LD : List (String × DataW Unit) := [("unicode/utf8.acceptRanges", Rows.laid_unicode_utf8_acceptRanges), ("unicode/utf8.first", Rows.laid_unicode_utf8_first)]
noncomputable def laidWorld (os : Os) : World :=
  { World.doorLaid Tryz.prog 400 os with heap := (World.doorLaid Tryz.prog 400 os).heap.modify 4 fun
      | .cells _ t frozen => .cells (Go.Pinned.utf8FirstZ.map fun (x : Nat) => Value.int .u8 (x : Int)).toArray t frozen
      | o => o }
theorem GM_of_shape {W : World} (h : W.ShapedOpen Tryz.prog) : GM W := by
  obtain ⟨m, hm⟩ := cell_of_shapedOpen_int (P := Tryz.prog) (g := 3) (t := 3) (zero := #[.int .i64 0]) h (of_decide_eq_true (by kernel_rfl)) (by kernel_rfl) rfl (by kernel_rfl) (by kernel_rfl) Tryz.underlying3
  exact ⟨block_lt_of_cell hm, m, hm⟩
section
variable {H : Type} {enc : TypeId × Value → H} {W : World} {b0 : Nat} {v : Value} {d : DataW H} {p : List MemPlace}
theorem cS : Tryz.prog.cellsOf 9 = 1 := by kernel_rfl
theorem one_str {base : Nat} {sp : Nat → Bool} {hd : Bool} {n : Nat} {x : Value} {y : DataW H × List MemPlace} (h : DataW.trod enc Tryz.prog W base sp hd n 9 [x] = some y) : ∃ s : ByteArray, x = .string s ∧ y.1 = .lit (.string s.data.toList) := by
  obtain ⟨s, hc, hx, _⟩ := DataW.trod_string Tryz.underlying9 h
  exact ⟨s, by simpa using hc, by rw [hx]⟩
set_option linter.constructorNameAsVariable false
set_option maxRecDepth 100000 in
theorem five {α : Type} {l : List α} (h : l.length = 5) : ∃ a b c d e, l = [a, b, c, d, e] := by
  match l, h with
  | [a, b, c, d, e], _ => exact ⟨a, b, c, d, e, rfl⟩
end
section
variable {H : Type} {enc : TypeId × Value → H} {W : World} {b0 : Nat} {v : Value} {d : DataW H} {p : List MemPlace}
set_option linter.constructorNameAsVariable false
end
end Go.Proofs.YtfhbpgickkibmaaGreatDoor
namespace Go.Proofs.YtfhbpgickkibmaaGreatDoor
open Go.ChangeShapes Go.WideShapes Go.ChangeAt Go.RowKit
open Go.ChangeMaps (open_string shut_string)

def LDh : List (String × DataW Unit) := [("dialtone/hash.constants", Rows.laid_dialtone_hash_constants), ("unicode/utf8.acceptRanges", Rows.laid_unicode_utf8_acceptRanges), ("unicode/utf8.first", Rows.laid_unicode_utf8_first)]
def LDa : List (String × DataW Unit) := [("dialtone/hash.constants", Rows.laid_dialtone_hash_constants), ("unicode/utf8.acceptRanges", Rows.laid_unicode_utf8_acceptRanges), ("dialtone/header.specials", Rows.laid_dialtone_header_specials), ("unicode/utf8.first", Rows.laid_unicode_utf8_first)]
theorem gConst : Tryz.prog.globalNamed "dialtone/hash.constants" = some 1 := by kernel_rfl
theorem tConst : (Tryz.prog.globals[1]?).map (·.type) = some 202 := by kernel_rfl
theorem cU32 : Tryz.prog.cellsOf 72 = 1 := by kernel_rfl
theorem cA64 : Tryz.prog.cellsOf 202 = 64 := by kernel_rfl
theorem KC_of_met {W : World} {rest : List (String × DataW Unit)} (h : laidMet Tryz.prog (("dialtone/hash.constants", Rows.laid_dialtone_hash_constants) :: rest) W) : KC W := by
  have h1 : laidMet Tryz.prog (("dialtone/hash.constants", Lib.tabData .u32 Ks) :: rest) W := h
  have h2 := Lib.tabIs_of_head gConst tConst Tryz.underlying202 Tryz.underlying72 cU32 cA64 h1
  have h3 := fun i hi => h2.cell gConst i hi
  exact ⟨block_lt_of_cell (h3 0 (by decide)), fun i hi => h3 i hi⟩
section
variable {H : Type} {enc : TypeId × Value → H} {W : World} {b0 : Nat} {v : Value} {d : DataW H} {p : List MemPlace}
theorem bulk_lits (k : IntKind) : ∀ zs : List Int, Rows.uptoBulkAll (lits (H := H) k zs) = zs.length
  | [] => rfl
  | z :: zs => by
    have ih := bulk_lits k zs
    unfold lits at ih ⊢
    rw [List.map_cons, Rows.uptoBulkAll, ih, List.length_cons]
    simp [Rows.uptoBulk]
    omega
theorem cU8 : Tryz.prog.cellsOf 5 = 1 := by kernel_rfl
/-- A slice of bytes, opened. -/
theorem bytes_trod {fuel : Nat} {base : Nat} {sp : Nat → Bool} {hd : Bool} {v : Value} {y : DataW H × List MemPlace} (hsp : ∀ b, sp b = true) (h : DataW.trod enc Tryz.prog W base sp hd fuel 31 [v] = some y) :
    ∃ (A : Option Addr) (n c : Nat) (bs : List Int), v = .slice A n c ∧ By bs ∧ bs.length = n ∧ n ≤ c ∧ Bs W W.heap.size A bs ∧ n ≤ Rows.uptoBulk y.1 := by
  rcases open_ints Tryz.underlying31 Tryz.underlying5 cU8 h with ⟨h1, h2⟩ | ⟨a, len, cap, zs, h1, _, h3, _, h5, h6, h7, h8⟩
  · simp at h1
    subst h1
    exact ⟨none, 0, 0, [], rfl, fun x hx => absurd hx (by simp), rfl, Nat.le_refl _, fun h => absurd h (by simp), Nat.zero_le _⟩
  · simp at h1
    subst h1
    rw [if_pos (hsp _)] at h5
    have hl : (zs.take len).length = len := by rw [List.length_take]; omega
    refine ⟨some a, len, cap, zs.take len, rfl, fun x hx => ?_, hl, h3, fun h0 => ?_, ?_⟩
    · have := h8 x (List.mem_of_mem_take hx)
      have := bounds_u8 this
      omega
    · refine ⟨a, rfl, ?_, fun j x hj => ?_⟩
      · have := block_lt_of_cell (h7 0 (by omega))
        rwa [add_block] at this
      · have hj' : j < len := by have := (List.getElem?_eq_some_iff.1 hj).1; omega
        rw [h7 j (by omega)]
        rw [List.getElem?_take, if_pos hj'] at hj
        rw [List.getD_eq_getElem?_getD, hj]; rfl
    · rw [h6]
      simp only [Rows.uptoBulk, bulk_lits, hl]
      omega
set_option linter.constructorNameAsVariable false
end
end Go.Proofs.YtfhbpgickkibmaaGreatDoor
