/- The law AddressAgain. The last step of a row whose call leaves all that was there: 'Below' at the heap's size takes the place of 'the frozen marks are as they were'. Arguments that are only read read behind the call as they read before it: whatever their types. What the rows of chapter 02 share: the listed variables laid, the classes and the powers of ten out of them; MaxLen's number out of the world's shape. -/
import Derived.Test.YthfonniieaiocaaGreatDoorWb
import Derived.Below
import Derived.ChangeSame
import Derived.ProofKit
import Derived.WalkKit
import Derived.Test.YthfonniieaiocaaGreatDoorUx
import Derived.Test.YthfonniieaiocaaGreatDoorRows
import Derived.LaidMore
import Derived.OpenShut
import Derived.ShutString
import Derived.Stop.Joined
import Derived.Shelf.Vars
import Derived.Deep.DeepHandedRow
import Derived.Deep.Slices
import Derived.Deep.Fields
import Derived.Stop.LaidErr
set_option linter.unusedVariables false
set_option linter.unusedSimpArgs false
namespace Go.Proofs.YthfonniieaiocaaGreatDoor
open Go.RowKit

theorem uri_n {xs : List Int} {u : Uri} (hx : By xs) (h : uriL xs = .ok u) : UriN u := by have := uri_ok hx; rw [h] at this; exact this
def UR0 : Uri := ⟨[], [], [], 0, [], []⟩
theorem same_zero (w : World) : Calls Tryz.prog 25 #[.agg #[.string ⟨#[]⟩, .string ⟨#[]⟩, .string ⟨#[]⟩, .int .i64 0, .slice none 0 0, .slice none 0 0], .agg #[.string ⟨#[]⟩, .string ⟨#[]⟩, .string ⟨#[]⟩, .int .i64 0, .slice none 0 0, .slice none 0 0]] w fun e w' => e = .returned (.bool true) ∧ Below w.heap.size w w' := by
  have hb : UriBy UR0 := ⟨byD rfl, byD rfl, byD rfl, (fun p hp => by cases hp), (fun p hp => by cases hp)⟩
  have h := same_any UR0 UR0 none none none none 0 0 0 0 0 0 0 0 w hb hb rfl rfl rfl rfl (fun h => absurd h (by decide)) (fun h => absurd h (by decide)) (fun h => absurd h (by decide)) (fun h => absurd h (by decide)) (by decide) (by decide) (by decide) (by decide)
  rw [sameU_iff.2 rfl] at h
  exact h
theorem print_good {u : Uri} {s : List Int} (h : printU u = some s) (A1 A2 : Option Addr) (c1 c2 : Nat) (w : World) (H : UArg w u A1 A2) (hC : CLS w) (hG : GM w) (hP : PT w) :
    Calls Tryz.prog 29 #[uS u A1 A2 c1 c2] w fun e w' => e = .returned (.tuple #[.string (strOfNums s), .int .u8 0]) ∧ Below w.heap.size w w' := by
  have h2 := print_any u A1 A2 c1 c2 w H hC hG hP
  rw [h] at h2
  exact h2.mono fun e w' hr => ⟨hr.2, hr.1⟩
theorem same_one {u : Uri} (A1 A2 B1 B2 : Option Addr) (c1 c2 d1 d2 : Nat) (w : World) (H : UArg w u A1 A2) (H2 : UArg w u B1 B2) :
    Calls Tryz.prog 25 #[uS u A1 A2 c1 c2, uS u B1 B2 d1 d2] w fun e w' => e = .returned (.bool true) ∧ Below w.heap.size w w' := by
  have h := same_any u u A1 A2 B1 B2 _ _ _ _ c1 c2 d1 d2 w H.by_ H.by_ rfl rfl rfl rfl H.r1 H.r2 H2.r1 H2.r2 H.l1 H.l2 H.l1 H.l2
  rw [sameU_iff.2 rfl] at h
  exact h
set_option maxRecDepth 100000 in
set_option maxHeartbeats 2000000 in
theorem again_any (s : ByteArray) (w : World) (hC : CLS w) (hG : GM w) (hP : PT w) : Calls Tryz.prog 6 #[.string s] w fun e w' => e = .returned (.bool true) ∧ Below w.heap.size w w' := by
  have HC := Lib.hid (fun w' (h : Below w.heap.size w w') => hC.below h)
  have HG := Lib.hid (fun w' (h : Below w.heap.size w w') => hG.below h)
  have HP := Lib.hid (fun w' (h : Below w.heap.size w w') => hP.below h)
  have AW := Lib.hid (fun w' (h : Below w.heap.size w w') => awake_any w' (hC.below h) (hG.below h) (hP.below h))
  have HL := byteL_len s
  have UO := Lib.hid (uri_ok (byteL_by s))
  clear hC hG hP
  go_enter Tryz.func6, Tryz.ntmps6
  cases hu : uriL (byteL s) with
  | error q =>
    obtain ⟨n, k⟩ := q
    have hq := UO.out
    rw [hu] at hq
    obtain ⟨hn, hk⟩ := hq
    dsimp only at hn hk
    rw [HL] at hn
    have dn : decide ((n : Int) ≤ (s.size : Int)) = true := by simp; omega
    have dz : decide ((0 : Int) ≤ (n : Int)) = true := by simp
    have dk : (k == 0) = false := by simpa using hk
    have dk2 : (k != 0) = true := by simpa using hk
    have dk3 : decide (k = 0) = false := by simpa using hk
    have HU := Lib.hid hu
    clear hu UO HL
    go_wp2_with fail
    refine (parse_wrong s HU.out w (HC.out _ (Below.refl _ _)) (HG.out _ (Below.refl _ _)) (HP.out _ (Below.refl _ _))).mono ?_
    rintro e w1 ⟨rfl, hb1⟩
    have S1 := Lib.hid hb1
    clear hb1
    have RZ := Lib.hid (Row.new w1 32 [.string ⟨#[]⟩, .string ⟨#[]⟩, .string ⟨#[]⟩, .int .i64 0, .slice none 0 0, .slice none 0 0])
    go_wp2_with (with_reducible refine wpList_storeG rfl 32 (.tmp 3) (.tmp 16) rfl RZ.out [.string ⟨#[]⟩, .string ⟨#[]⟩, .string ⟨#[]⟩, .int .i64 0, .slice none 0 0, .slice none 0 0] rfl rfl (lenU _ _ _ _ _ _ _ _ _ _ _ _) (sizeU _ _ _ _ _ _) (u_one _ _ _ _) ?_)
    intro w2 R1 G_
    have S2 := Lib.hid (below_store (w := w1) (T := 32) (zs := [.string ⟨#[]⟩, .string ⟨#[]⟩, .string ⟨#[]⟩, .int .i64 0, .slice none 0 0, .slice none 0 0]) (Below.refl _ _) G_.out)
    clear RZ G_
    have B2 := Lib.hid (bthen S1.out S2.out)
    clear S1 S2
    have k0 : w2.cell? ⟨w1.heap.size, 0, none⟩ = some (.string ⟨#[]⟩) := R1.out.cell 0
    have k1 : w2.cell? ⟨w1.heap.size, 1, none⟩ = some (.string ⟨#[]⟩) := R1.out.cell 1
    have k2 : w2.cell? ⟨w1.heap.size, 2, none⟩ = some (.string ⟨#[]⟩) := R1.out.cell 2
    have k3 : w2.cell? ⟨w1.heap.size, 3, none⟩ = some (.int .i64 0) := R1.out.cell 3
    have k4 : w2.cell? ⟨w1.heap.size, 4, none⟩ = some (.slice none 0 0) := R1.out.cell 4
    have k5 : w2.cell? ⟨w1.heap.size, 5, none⟩ = some (.slice none 0 0) := R1.out.cell 5
    clear R1
    go_wp2_with fail
    refine (same_zero w2).mono ?_
    rintro _ w3 ⟨rfl, hb3⟩
    have B3 := Lib.hid (bthen B2.out hb3)
    clear B2 hb3 k0 k1 k2 k3 k4 k5
    go_wp2_with fail
    refine (AW.out _ B3.out).mono ?_
    rintro _ w4 ⟨rfl, hb4⟩
    have B4 := Lib.hid (bthen B3.out hb4)
    clear hb4 B3
    go_wp2_with fail
    go_ret
    exact ⟨rfl, B4.out⟩
  | ok u =>
    obtain ⟨a1, a2, a3⟩ := again_law (byteL_by s) hu
    have A2 := Lib.hid a2
    have A3 := Lib.hid a3
    have HU := Lib.hid hu
    have HN := Lib.hid (uri_n (byteL_by s) hu)
    clear hu UO HL a1 a2 a3
    obtain ⟨t, ht⟩ : ∃ t, strOfNums (printN u) = t := ⟨_, rfl⟩
    have PG := Lib.hid (fun A1 A2' c1 c2 w' H (hb : Below w.heap.size w w') => print_good A2.out A1 A2' c1 c2 w' H (HC.out _ hb) (HG.out _ hb) (HP.out _ hb))
    rw [ht] at PG
    have PA := Lib.hid (fun (hl : t.size ≤ 1024) => by
      have h1 : (printN u).length ≤ 1024 := by rw [← num_size, ht]; exact hl
      have h2 := A3.out h1
      exact fun w' (hb : Below w.heap.size w w') => parse_good t (u := u) (by rw [← ht, byteL_str (printN_by HN.out)]; exact h2) w' (HC.out _ hb) (HG.out _ hb) (HP.out _ hb))
    clear A2 A3 ht
    go_wp2_with fail
    refine (parse_good s HU.out w (HC.out _ (Below.refl _ _)) (HG.out _ (Below.refl _ _)) (HP.out _ (Below.refl _ _))).mono ?_
    rintro e w1 ⟨A1, A2, c1, c2, rfl, hb1, ua1⟩
    have S1 := Lib.hid hb1
    have UA := Lib.hid ua1
    clear hb1 ua1 HU
    unfold uS
    have RZ := Lib.hid (Row.new w1 32 [.string ⟨#[]⟩, .string ⟨#[]⟩, .string ⟨#[]⟩, .int .i64 0, .slice none 0 0, .slice none 0 0])
    go_wp2_with (with_reducible refine wpList_storeG rfl 32 (.tmp 3) (.tmp 16) rfl RZ.out [.string (strOfNums u.sc), .string (strOfNums u.us), .string (strOfNums u.ho), .int .i64 u.po, .slice A1 u.ps.length c1, .slice A2 u.hs.length c2] rfl rfl (lenU _ _ _ _ _ _ _ _ _ _ _ _) (sizeU _ _ _ _ _ _) (u_one _ _ _ _) ?_)
    intro w2 R1 G_
    have S2 := Lib.hid (below_store (w := w1) (T := 32) (zs := [.string ⟨#[]⟩, .string ⟨#[]⟩, .string ⟨#[]⟩, .int .i64 0, .slice none 0 0, .slice none 0 0]) (Below.refl _ _) G_.out)
    clear RZ G_
    replace UA := Lib.hid (UA.out.step S2.out)
    have B2 := Lib.hid (bthen S1.out S2.out)
    clear S1 S2
    generalize w1.heap.size = g1 at *
    have k0 : w2.cell? ⟨g1, 0, none⟩ = some (.string (strOfNums u.sc)) := R1.out.cell 0
    have k1 : w2.cell? ⟨g1, 1, none⟩ = some (.string (strOfNums u.us)) := R1.out.cell 1
    have k2 : w2.cell? ⟨g1, 2, none⟩ = some (.string (strOfNums u.ho)) := R1.out.cell 2
    have k3 : w2.cell? ⟨g1, 3, none⟩ = some (.int .i64 u.po) := R1.out.cell 3
    have k4 : w2.cell? ⟨g1, 4, none⟩ = some (.slice A1 u.ps.length c1) := R1.out.cell 4
    have k5 : w2.cell? ⟨g1, 5, none⟩ = some (.slice A2 u.hs.length c2) := R1.out.cell 5
    go_wp2_with fail
    refine (PG.out A1 A2 c1 c2 w2 UA.out B2.out).mono ?_
    rintro e w3 ⟨rfl, hb3⟩
    have B3 := Lib.hid (bthen B2.out hb3)
    replace R1 := Lib.hid (R1.out.below hb3)
    replace UA := Lib.hid (UA.out.step hb3)
    clear hb3 B2 k0 k1 k2 k3 k4 k5
    by_cases hl : 1024 < t.size
    · have dl : decide ((1024 : Int) < (t.size : Int)) = true := by simp; omega
      go_wp2_with fail
      refine (AW.out _ B3.out).mono ?_
      rintro _ w4 ⟨rfl, hb4⟩
      have B4 := Lib.hid (bthen B3.out hb4)
      clear hb4 B3
      go_wp2_with fail
      go_ret
      exact ⟨rfl, B4.out⟩
    have dl : decide ((1024 : Int) < (t.size : Int)) = false := by simp; omega
    have PA2 := Lib.hid (PA.out (by omega))
    clear hl PA
    go_wp2_with fail
    refine (PA2.out _ B3.out).mono ?_
    rintro e w4 ⟨B1, B2, d1, d2, rfl, hb4, ua4⟩
    have S4 := Lib.hid hb4
    have UB := Lib.hid ua4
    clear hb4 ua4
    unfold uS
    have RZ := Lib.hid (Row.new w4 32 [.string ⟨#[]⟩, .string ⟨#[]⟩, .string ⟨#[]⟩, .int .i64 0, .slice none 0 0, .slice none 0 0])
    go_wp2_with (with_reducible refine wpList_storeG rfl 32 (.tmp 8) (.tmp 55) rfl RZ.out [.string (strOfNums u.sc), .string (strOfNums u.us), .string (strOfNums u.ho), .int .i64 u.po, .slice B1 u.ps.length d1, .slice B2 u.hs.length d2] rfl rfl (lenU _ _ _ _ _ _ _ _ _ _ _ _) (sizeU _ _ _ _ _ _) (u_one _ _ _ _) ?_)
    intro w5 R2 G_
    have S5 := Lib.hid (below_store (w := w4) (T := 32) (zs := [.string ⟨#[]⟩, .string ⟨#[]⟩, .string ⟨#[]⟩, .int .i64 0, .slice none 0 0, .slice none 0 0]) (Below.refl _ _) G_.out)
    clear RZ G_
    replace UB := Lib.hid (UB.out.step S5.out)
    have S6 := Lib.hid (bthen S4.out S5.out)
    have B5 := Lib.hid (bthen B3.out S6.out)
    replace UA := Lib.hid (UA.out.step S6.out)
    replace R1 := Lib.hid (R1.out.below S6.out)
    clear S4 S5 S6 B3
    generalize w4.heap.size = g2 at *
    have m0 : w5.cell? ⟨g2, 0, none⟩ = some (.string (strOfNums u.sc)) := R2.out.cell 0
    have m1 : w5.cell? ⟨g2, 1, none⟩ = some (.string (strOfNums u.us)) := R2.out.cell 1
    have m2 : w5.cell? ⟨g2, 2, none⟩ = some (.string (strOfNums u.ho)) := R2.out.cell 2
    have m3 : w5.cell? ⟨g2, 3, none⟩ = some (.int .i64 u.po) := R2.out.cell 3
    have m4 : w5.cell? ⟨g2, 4, none⟩ = some (.slice B1 u.ps.length d1) := R2.out.cell 4
    have m5 : w5.cell? ⟨g2, 5, none⟩ = some (.slice B2 u.hs.length d2) := R2.out.cell 5
    go_wp2_with fail
    refine (PG.out B1 B2 d1 d2 w5 UB.out B5.out).mono ?_
    rintro e w6 ⟨rfl, hb6⟩
    have B6 := Lib.hid (bthen B5.out hb6)
    replace R1 := Lib.hid (R1.out.below hb6)
    replace R2 := Lib.hid (R2.out.below hb6)
    replace UA := Lib.hid (UA.out.step hb6)
    replace UB := Lib.hid (UB.out.step hb6)
    clear hb6 B5 m0 m1 m2 m3 m4 m5
    have k0 : w6.cell? ⟨g1, 0, none⟩ = some (.string (strOfNums u.sc)) := R1.out.cell 0
    have k1 : w6.cell? ⟨g1, 1, none⟩ = some (.string (strOfNums u.us)) := R1.out.cell 1
    have k2 : w6.cell? ⟨g1, 2, none⟩ = some (.string (strOfNums u.ho)) := R1.out.cell 2
    have k3 : w6.cell? ⟨g1, 3, none⟩ = some (.int .i64 u.po) := R1.out.cell 3
    have k4 : w6.cell? ⟨g1, 4, none⟩ = some (.slice A1 u.ps.length c1) := R1.out.cell 4
    have k5 : w6.cell? ⟨g1, 5, none⟩ = some (.slice A2 u.hs.length c2) := R1.out.cell 5
    have m0 : w6.cell? ⟨g2, 0, none⟩ = some (.string (strOfNums u.sc)) := R2.out.cell 0
    have m1 : w6.cell? ⟨g2, 1, none⟩ = some (.string (strOfNums u.us)) := R2.out.cell 1
    have m2 : w6.cell? ⟨g2, 2, none⟩ = some (.string (strOfNums u.ho)) := R2.out.cell 2
    have m3 : w6.cell? ⟨g2, 3, none⟩ = some (.int .i64 u.po) := R2.out.cell 3
    have m4 : w6.cell? ⟨g2, 4, none⟩ = some (.slice B1 u.ps.length d1) := R2.out.cell 4
    have m5 : w6.cell? ⟨g2, 5, none⟩ = some (.slice B2 u.hs.length d2) := R2.out.cell 5
    go_wp2_with fail
    refine (same_one A1 A2 B1 B2 c1 c2 d1 d2 w6 UA.out UB.out).mono ?_
    rintro e w7 ⟨rfl, hb7⟩
    have B7 := Lib.hid (bthen B6.out hb7)
    clear hb7 B6 k0 k1 k2 k3 k4 k5 m0 m1 m2 m3 m4 m5 R1 R2 UA UB
    go_wp2_with fail
    refine (AW.out _ B7.out).mono ?_
    rintro _ w8 ⟨rfl, hb8⟩
    have B8 := Lib.hid (bthen B7.out hb8)
    go_wp2_with fail
    go_ret
    exact ⟨rfl, B8.out⟩
end Go.Proofs.YthfonniieaiocaaGreatDoor
namespace Go.Proofs.YthfonniieaiocaaGreatDoor
open Go.RowKit Go.WideShapes Go.ChangeShapes

section
variable {H : Type} {enc : TypeId × Value → H} {P : Program}
theorem post_kept {f : Func} {s : ChangeSpec} {apart fresh handsOn again : Bool} {W W' : World} {args : Array Value} {v : Value} {ds gs : List (DataW H)} {before pa pv : List MemPlace}
    (hW : DataW.Whole enc P f.params.toList s.vars apart W args.toList ds gs before)
    (hres : ∀ (b : Nat) (sp : Nat → Bool) (hd : Bool), DataW.TrodAll enc P W' b sp hd f.resultTypes.toList (v.resultList f.resultTypes.size) (s.fn H (ds ++ gs)).results [])
    (hargs : ∀ sp : Nat → Bool, (∀ p ∈ before, sp p.block = true) → DataW.TrodAll enc P W' 0 sp true f.params.toList args.toList (s.fn H (ds ++ gs)).args pa)
    (hvars : ∀ sp : Nat → Bool, (∀ p ∈ before, sp p.block = true) → DataW.TrodVars enc P W' sp s.vars (s.fn H (ds ++ gs)).vars pv)
    (hps : before = pa ++ pv) (hb : Below W.heap.size W W')
    (hok : ∀ (j : Nat) (t : TypeId) (r : Value), f.resultTypes[j]? = some t → (v.resultList f.resultTypes.size)[j]? = some r → Value.okWide P W' .any 0 t r) :
    s.post enc P f apart fresh handsOn again W args v W' := by
  have hlt : ∀ p ∈ before, p.block < W.heap.size := fun p hp => hW.lt p hp
  have hold : ∀ p ∈ before, (fun b => decide (b < W.heap.size)) p.block = true := fun p hp => by simpa using hlt p hp
  refine ⟨ds, gs, before, [], pa, pv, hW, hres _ _ _, hargs _ hold, hvars _ hold, World.keptBut_mono (fun p hp => ⟨hp, ?_⟩) (hb.frame (· ∈ before)), fun _ => ?_⟩
  · rw [hps, List.mem_append] at hp
    exact Or.inr hp
  · obtain ⟨_, _, _, _, _, hz, hn⟩ := hW
    refine ⟨hok, _, _, ([] ++ pa) ++ pv, ⟨[] ++ pa, pv, trodAll_append (hargs _ (fun _ _ => rfl)) (hres _ _ _), hvars _ (fun _ _ => rfl), rfl, ?_, ?_⟩, ?_⟩
    · intro b off hp
      have hin : MemPlace.cell b off ∈ before := by rw [hps]; simpa using hp
      rw [hb.frozen (hlt _ hin)]
      exact hz b off hin
    · intro ha
      have := hn ha
      rw [hps] at this
      simpa using this
    · intro p hp _
      rw [hps]
      simpa using hp
end
end Go.Proofs.YthfonniieaiocaaGreatDoor
namespace Go.Proofs.YthfonniieaiocaaGreatDoor
open Go.RowKit Go.WideShapes Go.ChangeShapes

theorem trodAll_stays {H : Type} {enc : TypeId × Value → H} {P : Program} (hl : laidOutB P = true) {W W' : World} (hb : Below W.heap.size W W') {sp : Nat → Bool} :
    ∀ {ts : List TypeId} {vs : List Value} {ds : List (DataW H)} {ps : List MemPlace}, (∀ t ∈ ts, P.readableRec t = true ∧ t < P.types.size) → DataW.TrodAll enc P W 0 (fun _ => true) true ts vs ds ps → (∀ x ∈ ps, x.block < W.heap.size) → (∀ x ∈ ps, sp x.block = true) →
    DataW.TrodAll enc P W' 0 sp true ts vs ds ps
  | [], [], [], _, _, h, _, _ => h
  | t :: ts, v :: vs, d :: ds, _, hT, ⟨p, q, h1, h2, e⟩, hlt, hs => by
    subst e
    refine ⟨p, q, ?_, ?_, rfl⟩
    · exact WideElems.Trod_stays hl (hT t (by simp)).1 (hT t (by simp)).2 h1 (fun x hx => hb.same (hlt x (List.mem_append_left _ hx))) (fun x hx => hs x (List.mem_append_left _ hx))
    · exact trodAll_stays hl hb (fun t ht => hT t (by simp [ht])) h2 (fun x hx => hlt x (List.mem_append_right _ hx)) (fun x hx => hs x (List.mem_append_right _ hx))
  | [], [], _ :: _, _, _, h, _, _ => h.elim
  | [], _ :: _, _, _, _, h, _, _ => h.elim
  | _ :: _, [], _, _, _, h, _, _ => h.elim
  | _ :: _, _ :: _, [], _, _, h, _, _ => h.elim
end Go.Proofs.YthfonniieaiocaaGreatDoor
namespace Go.Proofs.YthfonniieaiocaaGreatDoor
open Go.ChangeShapes Go.WideShapes Go.ChangeAt Go.RowKit
open Go.ChangeMaps (open_string shut_string)

section
variable {H : Type} {enc : TypeId × Value → H}
/-- As 'returnsInHanded_of_change_and'; the contract is also told the world's shape. -/
theorem handed_shape {a : Assume} {C : Checked} {os : Os} {f : FuncId} {fn : Func} {s : ChangeSpec} {conds : List PathCond} {apart fresh handsOn again : Bool} {X : World → Array Value → Prop}
    (hX : ∀ (w w' : World) (args : Array Value), w.heap = w'.heap → X w args → X w' args)
    (own : ownKnob C.prog.godebug = none) (started : os.Started) (noInit : C.prog.inits.idxOf? f = none) (hfn : C.prog.funcs[f]? = some fn)
    (witness : ∃ (w : World) (tape : Tape) (i : Input), w.os = os ∧ (w.forCall tape i).Shaped C.prog ∧ i.vars = [] ∧ Input.okWide C.prog (w.forCall tape i) .any w.heap.size f i ∧
      ((s.pre enc C.prog fn conds apart (w.forCall tape i).memory i.args ∧ X (w.forCall tape i).memory i.args) ∧ sizedMet enc C.prog fn (OpenSpec.ofChange s) apart (w.forCall tape i).memory i.args) ∧ a.holds C.prog (lone (Frame.enter C.prog f i.args .normal) [] (w.forCall tape i)))
    (contract : ∀ (W : World) (base : Nat) (args : Array Value) (ds gs : List (DataW H)) (before : List MemPlace),
      (∀ (j : Nat) t v, fn.params[j]? = some t → args[j]? = some v → Value.okWide C.prog W .any base t v) →
      DataW.Whole enc C.prog fn.params.toList s.vars apart W args.toList ds gs before →
      X W args → W.ShapedOpen C.prog →
      Calls C.prog f args W fun e W' => ∃ v, e = .returned v ∧ s.post enc C.prog fn apart fresh handsOn again W args v W') :
    ReturnsInHanded a C os f .any (fun w args => (s.pre enc C.prog fn conds apart w args ∧ X w args) ∧ sizedMet enc C.prog fn (OpenSpec.ofChange s) apart w args) (s.post enc C.prog fn apart fresh handsOn again) := by
  refine returnsInHanded_of_calls own started noInit witness ?_
  intro w tape i _ hsh _ hok hpre hholds
  obtain ⟨_, _, _, fn', hfn', _, _, _, _, hval⟩ := hok
  have e : fn' = fn := Option.some.inj (hfn'.symm.trans hfn)
  subst e
  obtain ⟨⟨⟨ds, gs, before, hw, hc⟩, hx⟩, hz⟩ := hpre
  have hw' := DataW.Whole.of_heap (w' := w.forCall tape i) (by rfl) hw
  refine (contract (w.forCall tape i) w.heap.size i.args ds gs before hval hw' (hX _ _ _ (by rfl) hx) hsh).mono fun e W' ⟨v, he, hp⟩ => ?_
  subst he
  exact ChangeSpec.post_blind hp
end
theorem own : ownKnob Tryz.prog.godebug = none := by kernel_rfl
theorem laidOut : laidOutB Tryz.prog = true := by kernel_rfl
def LDk : List (String × DataW Unit) := [("math/bits.deBruijn32tab", Rows.laid_math_bits_deBruijn32tab), ("math/bits.deBruijn64tab", Rows.laid_math_bits_deBruijn64tab), ("internal/strconv.uint64pow10", Rows.laid_internal_strconv_uint64pow10), ("unicode/utf8.acceptRanges", Rows.laid_unicode_utf8_acceptRanges), ("dialtone/address.classes", Rows.laid_dialtone_address_classes), ("unicode/utf8.first", Rows.laid_unicode_utf8_first)]
noncomputable def laidWorld (os : Os) : World :=
  { World.doorLaid Tryz.prog 400 os with heap := (World.doorLaid Tryz.prog 400 os).heap.modify 3 fun
      | .cells _ t frozen => .cells (Go.Pinned.utf8FirstZ.map fun (x : Nat) => Value.int .u8 (x : Int)).toArray t frozen
      | o => o }
theorem door_met_k (os : Os) (args : Array Value) : laidMetH Tryz.prog LDk ((laidWorld os).forCall (fun _ _ => 0) ⟨#[], args, []⟩).memory :=
  laidMetH_of_parts3 (fuel := 8) (laidMet_of_run' 8 (by kernel_rfl) (by kernel_rfl)) (by kernel_rfl) (by kernel_rfl)
theorem GM_of_shape {W : World} (h : W.ShapedOpen Tryz.prog) : GM W := by
  obtain ⟨m, hm⟩ := cell_of_shapedOpen_int (P := Tryz.prog) (g := 1) (t := 3) (zero := #[.int .i64 0]) h (of_decide_eq_true (by kernel_rfl)) (by kernel_rfl) rfl (by kernel_rfl) (by kernel_rfl) Tryz.underlying3
  exact ⟨block_lt_of_cell hm, m, hm⟩
theorem cS : Tryz.prog.cellsOf 9 = 1 := by kernel_rfl
theorem gCl : Tryz.prog.globalNamed "dialtone/address.classes" = some 0 := by kernel_rfl
theorem tCl : (Tryz.prog.globals[0]?).map (·.type) = some 124 := by kernel_rfl
theorem cA3 : Tryz.prog.cellsOf 124 = 3 := by kernel_rfl
def CLSL : List (List Int) := [[38, 61, 43, 36, 44, 59, 63, 47], [91, 93, 47, 58, 38, 43, 36], [91, 93, 47, 63, 58, 43, 36]]
theorem CLSV_eq : CLSV = CLSL.map fun s => Value.string (strOfNums s) := by kernel_rfl
theorem str_back {s : ByteArray} {x : List Int} (h : (strOfNums x).data.toList = s.data.toList) : s = strOfNums x := by
  have : (strOfNums x).data = s.data := Array.toList_inj.1 h
  cases s
  generalize strOfNums x = y at *
  cases y
  simp_all
theorem laidCl {H : Type} : (Rows.laid_dialtone_address_classes (H := H)) = .agg (CLSL.map fun s => .lit (.string (strOfNums s).data.toList)) := by kernel_rfl
theorem CLS_of_head {W : World} {rest : List (String × DataW Unit)} (h : laidMet Tryz.prog (("dialtone/address.classes", Rows.laid_dialtone_address_classes) :: rest) W) : CLS W := by
  obtain ⟨ps, ⟨g', t', cs, fuel, p, q, hg', ht', hvar, hd, _, _⟩, _⟩ := h
  obtain rfl := Option.some.inj (gCl.symm.trans hg')
  obtain rfl := Option.some.inj (tCl.symm.trans ht')
  rw [laidCl] at hd
  obtain ⟨xs, m, _, hx, hl, hlen, hf⟩ := DataW.trod_array Tryz.underlying124 hd
  rw [cA3] at hl
  have hxs : xs.map (·.1) = CLSL.map fun s => (DataW.lit (.string (strOfNums s).data.toList)) := by
    have := congrArg Prod.fst hx
    simpa using this.symm
  have key : ∀ (j : Nat) (v : Value), CLSV[j]? = some v → cs.toList[j]? = some v := fun j v hv => by
    have hj : j < 3 := (List.getElem?_eq_some_iff.1 hv).1
    have h1 := hf j hj
    rw [cS, Nat.mul_one] at h1
    rw [List.getElem?_eq_getElem (by rw [hlen]; exact hj)] at h1
    obtain ⟨s, hc, hy, _⟩ := DataW.trod_string Tryz.underlying9 h1
    have h2 : (xs.map (·.1))[j]? = some (DataW.lit (.string s.data.toList)) := by
      rw [List.getElem?_map, List.getElem?_eq_getElem (by rw [hlen]; exact hj), hy]; rfl
    rw [hxs, List.getElem?_map] at h2
    obtain ⟨x, hx1, hx2⟩ := Option.map_eq_some_iff.1 h2
    injection hx2 with hx3
    injection hx3 with hx4
    have h3 : cs.toList[j]? = some (.string s) := by
      have := congrArg (·[0]?) hc
      simpa [List.getElem?_take, List.getElem?_drop] using this
    rw [h3, str_back hx4]
    rw [CLSV_eq, List.getElem?_map, hx1] at hv
    exact hv
  have cell : ∀ (j : Nat) (v : Value), CLSV[j]? = some v → W.cell? ⟨0, j, none⟩ = some v := fun j v hv => by
    rw [World.var?_cell gCl hvar j]
    simpa using key j v hv
  exact ⟨block_lt_of_cell (cell 0 _ rfl), fun j v hv => by rw [Nat.zero_add]; exact cell j v hv⟩
theorem gPow : Tryz.prog.globalNamed "internal/strconv.uint64pow10" = some 2 := by kernel_rfl
theorem tPow : (Tryz.prog.globals[2]?).map (·.type) = some 194 := by kernel_rfl
theorem cU64 : Tryz.prog.cellsOf 183 = 1 := by kernel_rfl
theorem cA20 : Tryz.prog.cellsOf 194 = 20 := by kernel_rfl
theorem PT_of_met {W : World} {rest : List (String × DataW Unit)} (h : laidMet Tryz.prog (("internal/strconv.uint64pow10", Rows.laid_internal_strconv_uint64pow10) :: rest) W) : PT W := by
  have h1 : laidMet Tryz.prog (("internal/strconv.uint64pow10", Lib.tabData .u64 Lib.pow10Tab) :: rest) W := h
  exact Lib.tabIs_of_head gPow tPow Tryz.underlying194 Tryz.underlying183 cU64 cA20 h1
theorem PT_of_k {W : World} (h : laidMetH Tryz.prog LDk W) : PT W := by
  rw [MakeChecks.laidMetH_plain _ _ _ (by kernel_rfl)] at h
  exact PT_of_met (laidMet.tail (laidMet.tail h))
theorem CLS_of_k {W : World} (h : laidMetH Tryz.prog LDk W) : CLS W := by
  rw [MakeChecks.laidMetH_plain _ _ _ (by kernel_rfl)] at h
  exact CLS_of_head (laidMet.tail (laidMet.tail (laidMet.tail (laidMet.tail h))))
end Go.Proofs.YthfonniieaiocaaGreatDoor
