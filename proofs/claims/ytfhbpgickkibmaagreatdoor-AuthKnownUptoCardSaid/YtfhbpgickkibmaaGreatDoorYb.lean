/- The last step of a row whose call leaves all that was there: 'Below' at the heap's size takes the place of 'the frozen marks are as they were'. Arguments that are only read read behind the call as they read before it: whatever their types. What the rows of this seat share: the arguments opened, the listed variables laid, MaxLen's number out of the world's shape. More of what the rows share: the listed variables of the laws that hash; bytes opened. -/
import Derived.Below
import Derived.ChangeSame
import Derived.ProofKit
import Derived.WalkKit
import Derived.Test.YtfhbpgickkibmaaGreatDoorMc
import Derived.Test.YtfhbpgickkibmaaGreatDoorLb
import Derived.Test.YtfhbpgickkibmaaGreatDoorRows
import Derived.LaidMore
import Derived.OpenShut
import Derived.ShutString
import Derived.Stop.Joined
import Derived.Shelf.Vars
import Derived.Deep.DeepHandedRow
import Derived.Test.YtfhbpgickkibmaaGreatDoorGh
import Derived.Lib.LaidTab
import Derived.Stop.LaidErr
namespace Go.Proofs.YtfhbpgickkibmaaGreatDoor
open Go.RowKit Go.WideShapes Go.ChangeShapes

section
variable {H : Type} {enc : TypeId × Value → H} {P : Program}
theorem post_kept {f : Func} {s : ChangeSpec} {apart fresh handsOn again : Bool} {W W' : World} {args : Array Value} {v : Value} {ds gs : List (DataW H)} {before pa pv : List MemPlace}
    (hW : DataW.Whole enc P f.params.toList s.vars apart W args.toList ds gs before)
    (hres : ∀ (b : Nat) (sp : Nat → Bool) (hd : Bool), DataW.TrodAll enc P W' b sp hd f.resultTypes.toList (v.resultList f.resultTypes.size) (s.fn H (ds ++ gs)).results [])
    (hargs : ∀ sp : Nat → Bool, (∀ p ∈ before, sp p.block = true) → DataW.TrodAll enc P W' 0 sp true f.params.toList args.toList (s.fn H (ds ++ gs)).args pa)
    (hvars : ∀ sp : Nat → Bool, (∀ p ∈ before, sp p.block = true) → DataW.TrodVars enc P W' sp s.vars (s.fn H (ds ++ gs)).vars pv)
    (hps : before = pa ++ pv) (hb : Below W.heap.size W W')
    (hok : ∀ (j : Nat) (t : TypeId) (r : Value), f.resultTypes[j]? = some t → (v.resultList f.resultTypes.size)[j]? = some r → Value.okWide P W' .any 0 t r) :
    s.post enc P f apart fresh handsOn again W args v W' := by
  have hlt : ∀ p ∈ before, p.block < W.heap.size := fun p hp => hW.lt p hp
  have hold : ∀ p ∈ before, (fun b => decide (b < W.heap.size)) p.block = true := fun p hp => by simpa using hlt p hp
  refine ⟨ds, gs, before, [], pa, pv, hW, hres _ _ _, hargs _ hold, hvars _ hold, World.keptBut_mono (fun p hp => ⟨hp, ?_⟩) (hb.frame (· ∈ before)), fun _ => ?_⟩
  · rw [hps, List.mem_append] at hp
    exact Or.inr hp
  · obtain ⟨_, _, _, _, _, hz, hn⟩ := hW
    refine ⟨hok, _, _, ([] ++ pa) ++ pv, ⟨[] ++ pa, pv, trodAll_append (hargs _ (fun _ _ => rfl)) (hres _ _ _), hvars _ (fun _ _ => rfl), rfl, ?_, ?_⟩, ?_⟩
    · intro b off hp
      have hin : MemPlace.cell b off ∈ before := by rw [hps]; simpa using hp
      rw [hb.frozen (hlt _ hin)]
      exact hz b off hin
    · intro ha
      have := hn ha
      rw [hps] at this
      simpa using this
    · intro p hp _
      rw [hps]
      simpa using hp
end
end Go.Proofs.YtfhbpgickkibmaaGreatDoor
namespace Go.Proofs.YtfhbpgickkibmaaGreatDoor
open Go.RowKit Go.WideShapes Go.ChangeShapes

theorem trodAll_stays {H : Type} {enc : TypeId × Value → H} {P : Program} (hl : laidOutB P = true) {W W' : World} (hb : Below W.heap.size W W') {sp : Nat → Bool} :
    ∀ {ts : List TypeId} {vs : List Value} {ds : List (DataW H)} {ps : List MemPlace}, (∀ t ∈ ts, P.readableRec t = true ∧ t < P.types.size) → DataW.TrodAll enc P W 0 (fun _ => true) true ts vs ds ps → (∀ x ∈ ps, x.block < W.heap.size) → (∀ x ∈ ps, sp x.block = true) →
    DataW.TrodAll enc P W' 0 sp true ts vs ds ps
  | [], [], [], _, _, h, _, _ => h
  | t :: ts, v :: vs, d :: ds, _, hT, ⟨p, q, h1, h2, e⟩, hlt, hs => by
    subst e
    refine ⟨p, q, ?_, ?_, rfl⟩
    · exact WideElems.Trod_stays hl (hT t (by simp)).1 (hT t (by simp)).2 h1 (fun x hx => hb.same (hlt x (List.mem_append_left _ hx))) (fun x hx => hs x (List.mem_append_left _ hx))
    · exact trodAll_stays hl hb (fun t ht => hT t (by simp [ht])) h2 (fun x hx => hlt x (List.mem_append_right _ hx)) (fun x hx => hs x (List.mem_append_right _ hx))
  | [], [], _ :: _, _, _, h, _, _ => h.elim
  | [], _ :: _, _, _, _, h, _, _ => h.elim
  | _ :: _, [], _, _, _, h, _, _ => h.elim
  | _ :: _, _ :: _, [], _, _, h, _, _ => h.elim
end Go.Proofs.YtfhbpgickkibmaaGreatDoor
namespace Go.Proofs.YtfhbpgickkibmaaGreatDoor
open Go.ChangeShapes Go.WideShapes Go.ChangeAt Go.RowKit
open Go.ChangeMaps (open_string shut_string)

theorem own : ownKnob Tryz.prog.godebug = none := by kernel_rfl
theorem laidOut : laidOutB Tryz.prog = true := by kernel_rfl
theorem readable : ∀ t ∈ [9, 36, 23], Tryz.prog.readableRec t = true ∧ t < Tryz.prog.types.size := by
  intro t ht
  simp only [List.mem_cons, List.not_mem_nil, or_false] at ht
  rcases ht with rfl | rfl | rfl
  all_goals exact ⟨by kernel_rfl, of_decide_eq_true (by kernel_rfl)⟩
def LD : List (String × DataW Unit) := [("unicode/utf8.acceptRanges", Rows.laid_unicode_utf8_acceptRanges), ("unicode/utf8.first", Rows.laid_unicode_utf8_first)]
noncomputable def laidWorld (os : Os) : World :=
  { World.doorLaid Tryz.prog 400 os with heap := (World.doorLaid Tryz.prog 400 os).heap.modify 4 fun
      | .cells _ t frozen => .cells (Go.Pinned.utf8FirstZ.map fun (x : Nat) => Value.int .u8 (x : Int)).toArray t frozen
      | o => o }
theorem door_met (os : Os) (args : Array Value) : laidMetH Tryz.prog LD ((laidWorld os).forCall (fun _ _ => 0) ⟨#[], args, []⟩).memory :=
  laidMetH_of_parts3 (fuel := 8) (laidMet_of_run' 8 (by kernel_rfl) (by kernel_rfl)) (by kernel_rfl) (by kernel_rfl)
theorem GM_of_shape {W : World} (h : W.ShapedOpen Tryz.prog) : GM W := by
  obtain ⟨m, hm⟩ := cell_of_shapedOpen_int (P := Tryz.prog) (g := 3) (t := 3) (zero := #[.int .i64 0]) h (of_decide_eq_true (by kernel_rfl)) (by kernel_rfl) rfl (by kernel_rfl) (by kernel_rfl) Tryz.underlying3
  exact ⟨block_lt_of_cell hm, m, hm⟩
section
variable {H : Type} {enc : TypeId × Value → H} {W : World} {b0 : Nat} {v : Value} {d : DataW H} {p : List MemPlace}
theorem cS : Tryz.prog.cellsOf 9 = 1 := by kernel_rfl
theorem cB : Tryz.prog.cellsOf 4 = 1 := by kernel_rfl
theorem cI : Tryz.prog.cellsOf 3 = 1 := by kernel_rfl
theorem c5c : Tryz.prog.cellsOf 36 = 5 := by kernel_rfl
theorem c9c : Tryz.prog.cellsOf 23 = 9 := by kernel_rfl
theorem one_str {base : Nat} {sp : Nat → Bool} {hd : Bool} {n : Nat} {x : Value} {y : DataW H × List MemPlace} (h : DataW.trod enc Tryz.prog W base sp hd n 9 [x] = some y) : ∃ s : ByteArray, x = .string s ∧ y.1 = .lit (.string s.data.toList) := by
  obtain ⟨s, hc, hx, _⟩ := DataW.trod_string Tryz.underlying9 h
  exact ⟨s, by simpa using hc, by rw [hx]⟩
theorem one_bool {base : Nat} {sp : Nat → Bool} {hd : Bool} {n : Nat} {x : Value} {y : DataW H × List MemPlace} (h : DataW.trod enc Tryz.prog W base sp hd n 4 [x] = some y) : ∃ s : Bool, x = .bool s := by
  obtain ⟨s, hc, _⟩ := DataW.trod_bool Tryz.underlying4 h
  exact ⟨s, by simpa using hc⟩
set_option linter.constructorNameAsVariable false
set_option maxRecDepth 100000 in
theorem five {α : Type} {l : List α} (h : l.length = 5) : ∃ a b c d e, l = [a, b, c, d, e] := by
  match l, h with
  | [a, b, c, d, e], _ => exact ⟨a, b, c, d, e, rfl⟩
theorem bulk_str (s : ByteArray) : Rows.uptoBulk (DataW.lit (H := H) (.string s.data.toList)) = s.size + 1 := by
  simp [Rows.uptoBulk]
set_option maxRecDepth 100000 in
/-- A challenge, opened. -/
theorem ch_open (hv : Value.okWide Tryz.prog W .any b0 36 v) (h : DataW.Trod enc Tryz.prog W 0 (fun _ => true) true 36 v d p) :
    ∃ (rs ns os : ByteArray) (i s : Bool), v = .agg #[.string rs, .string ns, .string os, .bool i, .bool s] ∧ rs.size + ns.size + os.size ≤ Rows.uptoBulk d := by
  obtain ⟨cs, rfl, hsz⟩ := okWide_struct Tryz.underlying36 hv
  obtain ⟨fuel, hf⟩ := h
  obtain ⟨xs, n, _, hx, hl, hlen, hfld⟩ := DataW.trod_struct Tryz.underlying36 hf
  rw [c5c] at hl
  obtain ⟨x0, x1, x2, x3, x4, hL⟩ := five hl
  obtain ⟨y0, y1, y2, y3, y4, rfl⟩ := five (show xs.length = 5 from hlen)
  have e0 : DataW.trod enc Tryz.prog W 0 (fun _ => true) true n 9 (((Value.agg cs).cells.toList.drop 0).take (Tryz.prog.cellsOf 9)) = some y0 := hfld 0 _ rfl
  have e1 : DataW.trod enc Tryz.prog W 0 (fun _ => true) true n 9 (((Value.agg cs).cells.toList.drop 1).take (Tryz.prog.cellsOf 9)) = some y1 := hfld 1 _ rfl
  have e2 : DataW.trod enc Tryz.prog W 0 (fun _ => true) true n 9 (((Value.agg cs).cells.toList.drop 2).take (Tryz.prog.cellsOf 9)) = some y2 := hfld 2 _ rfl
  have e3 : DataW.trod enc Tryz.prog W 0 (fun _ => true) true n 4 (((Value.agg cs).cells.toList.drop 3).take (Tryz.prog.cellsOf 4)) = some y3 := hfld 3 _ rfl
  have e4 : DataW.trod enc Tryz.prog W 0 (fun _ => true) true n 4 (((Value.agg cs).cells.toList.drop 4).take (Tryz.prog.cellsOf 4)) = some y4 := hfld 4 _ rfl
  rw [hL, cS] at e0 e1 e2
  rw [hL, cB] at e3 e4
  obtain ⟨a, rfl, z0⟩ := one_str (x := x0) (y := y0) e0
  obtain ⟨b, rfl, z1⟩ := one_str (x := x1) (y := y1) e1
  obtain ⟨c, rfl, z2⟩ := one_str (x := x2) (y := y2) e2
  obtain ⟨i, rfl⟩ := one_bool (x := x3) (y := y3) e3
  obtain ⟨s, rfl⟩ := one_bool (x := x4) (y := y4) e4
  refine ⟨a, b, c, i, s, ?_, ?_⟩
  · congr 1
    apply Array.toList_inj.1
    exact hL
  · rw [Prod.mk.injEq] at hx
    rw [hx.1]
    simp only [List.map_cons, List.map_nil, Rows.uptoBulk, Rows.uptoBulkAll, z0, z1, z2]
    simp
    omega
end
section
variable {H : Type} {enc : TypeId × Value → H} {W : World} {b0 : Nat} {v : Value} {d : DataW H} {p : List MemPlace}
theorem one_int {base : Nat} {sp : Nat → Bool} {hd : Bool} {n : Nat} {x : Value} {y : DataW H × List MemPlace} (h : DataW.trod enc Tryz.prog W base sp hd n 3 [x] = some y) : ∃ k : Int, x = .int .i64 k := by
  obtain ⟨s, hc, _⟩ := DataW.trod_int Tryz.underlying3 h
  exact ⟨s, by simpa using hc⟩
set_option linter.constructorNameAsVariable false
set_option maxRecDepth 100000 in
theorem nine9 {α : Type} {l : List α} (h : l.length = 9) : ∃ a b c d e f g i j, l = [a, b, c, d, e, f, g, i, j] := by
  match l, h with
  | [a, b, c, d, e, f, g, i, j], _ => exact ⟨a, b, c, d, e, f, g, i, j, rfl⟩
set_option maxRecDepth 100000 in
theorem cr_open (hv : Value.okWide Tryz.prog W .any b0 23 v) (h : DataW.Trod enc Tryz.prog W 0 (fun _ => true) true 23 v d p) :
    ∃ (us rs ns is ps cs os : ByteArray) (k : Int) (g : Bool), v = .agg #[.string us, .string rs, .string ns, .string is, .string ps, .string cs, .string os, .int .i64 k, .bool g] ∧ us.size + rs.size + ns.size + is.size + ps.size + cs.size + os.size ≤ Rows.uptoBulk d := by
  obtain ⟨cs, rfl, hsz⟩ := okWide_struct Tryz.underlying23 hv
  obtain ⟨fuel, hf⟩ := h
  obtain ⟨xs, n, _, hx, hl, hlen, hfld⟩ := DataW.trod_struct Tryz.underlying23 hf
  rw [c9c] at hl
  obtain ⟨x0, x1, x2, x3, x4, x5, x6, x7, x8, hL⟩ := nine9 hl
  obtain ⟨y0, y1, y2, y3, y4, y5, y6, y7, y8, rfl⟩ := nine9 (show xs.length = 9 from hlen)
  have e0 : DataW.trod enc Tryz.prog W 0 (fun _ => true) true n 9 (((Value.agg cs).cells.toList.drop 0).take (Tryz.prog.cellsOf 9)) = some y0 := hfld 0 _ rfl
  have e1 : DataW.trod enc Tryz.prog W 0 (fun _ => true) true n 9 (((Value.agg cs).cells.toList.drop 1).take (Tryz.prog.cellsOf 9)) = some y1 := hfld 1 _ rfl
  have e2 : DataW.trod enc Tryz.prog W 0 (fun _ => true) true n 9 (((Value.agg cs).cells.toList.drop 2).take (Tryz.prog.cellsOf 9)) = some y2 := hfld 2 _ rfl
  have e3 : DataW.trod enc Tryz.prog W 0 (fun _ => true) true n 9 (((Value.agg cs).cells.toList.drop 3).take (Tryz.prog.cellsOf 9)) = some y3 := hfld 3 _ rfl
  have e4 : DataW.trod enc Tryz.prog W 0 (fun _ => true) true n 9 (((Value.agg cs).cells.toList.drop 4).take (Tryz.prog.cellsOf 9)) = some y4 := hfld 4 _ rfl
  have e5 : DataW.trod enc Tryz.prog W 0 (fun _ => true) true n 9 (((Value.agg cs).cells.toList.drop 5).take (Tryz.prog.cellsOf 9)) = some y5 := hfld 5 _ rfl
  have e6 : DataW.trod enc Tryz.prog W 0 (fun _ => true) true n 9 (((Value.agg cs).cells.toList.drop 6).take (Tryz.prog.cellsOf 9)) = some y6 := hfld 6 _ rfl
  have e7 : DataW.trod enc Tryz.prog W 0 (fun _ => true) true n 3 (((Value.agg cs).cells.toList.drop 7).take (Tryz.prog.cellsOf 3)) = some y7 := hfld 7 _ rfl
  have e8 : DataW.trod enc Tryz.prog W 0 (fun _ => true) true n 4 (((Value.agg cs).cells.toList.drop 8).take (Tryz.prog.cellsOf 4)) = some y8 := hfld 8 _ rfl
  rw [hL, cS] at e0 e1 e2 e3 e4 e5 e6
  rw [hL, cI] at e7
  rw [hL, cB] at e8
  obtain ⟨a0, rfl, z0⟩ := one_str (x := x0) (y := y0) e0
  obtain ⟨a1, rfl, z1⟩ := one_str (x := x1) (y := y1) e1
  obtain ⟨a2, rfl, z2⟩ := one_str (x := x2) (y := y2) e2
  obtain ⟨a3, rfl, z3⟩ := one_str (x := x3) (y := y3) e3
  obtain ⟨a4, rfl, z4⟩ := one_str (x := x4) (y := y4) e4
  obtain ⟨a5, rfl, z5⟩ := one_str (x := x5) (y := y5) e5
  obtain ⟨a6, rfl, z6⟩ := one_str (x := x6) (y := y6) e6
  obtain ⟨a7, rfl⟩ := one_int (x := x7) (y := y7) e7
  obtain ⟨a8, rfl⟩ := one_bool (x := x8) (y := y8) e8
  refine ⟨a0, a1, a2, a3, a4, a5, a6, a7, a8, ?_, ?_⟩
  · congr 1
    apply Array.toList_inj.1
    exact hL
  · rw [Prod.mk.injEq] at hx
    rw [hx.1]
    simp only [List.map_cons, List.map_nil, Rows.uptoBulk, Rows.uptoBulkAll, z0, z1, z2, z3, z4, z5, z6]
    simp
    omega
end
end Go.Proofs.YtfhbpgickkibmaaGreatDoor
namespace Go.Proofs.YtfhbpgickkibmaaGreatDoor
open Go.ChangeShapes Go.WideShapes Go.ChangeAt Go.RowKit
open Go.ChangeMaps (open_string shut_string)

def LDh : List (String × DataW Unit) := [("dialtone/hash.constants", Rows.laid_dialtone_hash_constants), ("unicode/utf8.acceptRanges", Rows.laid_unicode_utf8_acceptRanges), ("unicode/utf8.first", Rows.laid_unicode_utf8_first)]
def LDa : List (String × DataW Unit) := [("dialtone/hash.constants", Rows.laid_dialtone_hash_constants), ("unicode/utf8.acceptRanges", Rows.laid_unicode_utf8_acceptRanges), ("dialtone/header.specials", Rows.laid_dialtone_header_specials), ("unicode/utf8.first", Rows.laid_unicode_utf8_first)]
theorem door_met_h (os : Os) (args : Array Value) : laidMetH Tryz.prog LDh ((laidWorld os).forCall (fun _ _ => 0) ⟨#[], args, []⟩).memory :=
  laidMetH_of_parts3 (fuel := 8) (laidMet_of_run' 8 (by kernel_rfl) (by kernel_rfl)) (by kernel_rfl) (by kernel_rfl)
theorem door_met_a (os : Os) (args : Array Value) : laidMetH Tryz.prog LDa ((laidWorld os).forCall (fun _ _ => 0) ⟨#[], args, []⟩).memory :=
  laidMetH_of_parts3 (fuel := 8) (laidMet_of_run' 8 (by kernel_rfl) (by kernel_rfl)) (by kernel_rfl) (by kernel_rfl)
theorem gConst : Tryz.prog.globalNamed "dialtone/hash.constants" = some 1 := by kernel_rfl
theorem tConst : (Tryz.prog.globals[1]?).map (·.type) = some 202 := by kernel_rfl
theorem cU32 : Tryz.prog.cellsOf 72 = 1 := by kernel_rfl
theorem cA64 : Tryz.prog.cellsOf 202 = 64 := by kernel_rfl
theorem KC_of_met {W : World} {rest : List (String × DataW Unit)} (h : laidMet Tryz.prog (("dialtone/hash.constants", Rows.laid_dialtone_hash_constants) :: rest) W) : KC W := by
  have h1 : laidMet Tryz.prog (("dialtone/hash.constants", Lib.tabData .u32 Ks) :: rest) W := h
  have h2 := Lib.tabIs_of_head gConst tConst Tryz.underlying202 Tryz.underlying72 cU32 cA64 h1
  have h3 := fun i hi => h2.cell gConst i hi
  exact ⟨block_lt_of_cell (h3 0 (by decide)), fun i hi => h3 i hi⟩
theorem KC_of_h {W : World} (h : laidMetH Tryz.prog LDh W) : KC W := by
  rw [MakeChecks.laidMetH_plain _ _ _ (by kernel_rfl)] at h
  exact KC_of_met h
theorem KC_of_a {W : World} (h : laidMetH Tryz.prog LDa W) : KC W := by
  rw [MakeChecks.laidMetH_plain _ _ _ (by kernel_rfl)] at h
  exact KC_of_met h
section
variable {H : Type} {enc : TypeId × Value → H} {W : World} {b0 : Nat} {v : Value} {d : DataW H} {p : List MemPlace}
theorem bulk_lits (k : IntKind) : ∀ zs : List Int, Rows.uptoBulkAll (lits (H := H) k zs) = zs.length
  | [] => rfl
  | z :: zs => by
    have ih := bulk_lits k zs
    unfold lits at ih ⊢
    rw [List.map_cons, Rows.uptoBulkAll, ih, List.length_cons]
    simp [Rows.uptoBulk]
    omega
theorem cU8 : Tryz.prog.cellsOf 5 = 1 := by kernel_rfl
/-- A slice of bytes, opened. -/
theorem bytes_trod {fuel : Nat} {base : Nat} {sp : Nat → Bool} {hd : Bool} {v : Value} {y : DataW H × List MemPlace} (hsp : ∀ b, sp b = true) (h : DataW.trod enc Tryz.prog W base sp hd fuel 31 [v] = some y) :
    ∃ (A : Option Addr) (n c : Nat) (bs : List Int), v = .slice A n c ∧ By bs ∧ bs.length = n ∧ n ≤ c ∧ Bs W W.heap.size A bs ∧ n ≤ Rows.uptoBulk y.1 := by
  rcases open_ints Tryz.underlying31 Tryz.underlying5 cU8 h with ⟨h1, h2⟩ | ⟨a, len, cap, zs, h1, _, h3, _, h5, h6, h7, h8⟩
  · simp at h1
    subst h1
    exact ⟨none, 0, 0, [], rfl, fun x hx => absurd hx (by simp), rfl, Nat.le_refl _, fun h => absurd h (by simp), Nat.zero_le _⟩
  · simp at h1
    subst h1
    rw [if_pos (hsp _)] at h5
    have hl : (zs.take len).length = len := by rw [List.length_take]; omega
    refine ⟨some a, len, cap, zs.take len, rfl, fun x hx => ?_, hl, h3, fun h0 => ?_, ?_⟩
    · have := h8 x (List.mem_of_mem_take hx)
      have := bounds_u8 this
      omega
    · refine ⟨a, rfl, ?_, fun j x hj => ?_⟩
      · have := block_lt_of_cell (h7 0 (by omega))
        rwa [add_block] at this
      · have hj' : j < len := by have := (List.getElem?_eq_some_iff.1 hj).1; omega
        rw [h7 j (by omega)]
        rw [List.getElem?_take, if_pos hj'] at hj
        rw [List.getD_eq_getElem?_getD, hj]; rfl
    · rw [h6]
      simp only [Rows.uptoBulk, bulk_lits, hl]
      omega
set_option linter.constructorNameAsVariable false
set_option maxRecDepth 100000 in
theorem bytes_open (hv : Value.okWide Tryz.prog W .any b0 31 v) (h : DataW.Trod enc Tryz.prog W 0 (fun _ => true) true 31 v d p) :
    ∃ (A : Option Addr) (n c : Nat) (bs : List Int), v = .slice A n c ∧ By bs ∧ bs.length = n ∧ n ≤ c ∧ Bs W W.heap.size A bs ∧ n ≤ Rows.uptoBulk d := by
  obtain ⟨A, n, c, rfl⟩ := okWide_slice Tryz.underlying31 hv
  obtain ⟨fuel, hf⟩ := h
  exact bytes_trod (fun _ => rfl) hf
end
end Go.Proofs.YtfhbpgickkibmaaGreatDoor
