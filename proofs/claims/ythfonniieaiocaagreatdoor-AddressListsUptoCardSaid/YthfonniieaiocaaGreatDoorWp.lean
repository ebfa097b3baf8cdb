/- Contracts: the reference's six, Host. Contract: the reference's Host. -/
import Derived.Test.YthfonniieaiocaaGreatDoorWn
set_option linter.unusedVariables false
set_option linter.unusedSimpArgs false
set_option maxRecDepth 100000
namespace Go.Proofs.YthfonniieaiocaaGreatDoor
open Go.RowKit

theorem dbl_step {X : List Int} {i : Nat} (hi : i + 1 < X.length) (h : ¬ (X.getD i 0 = 58 ∧ X.getD (i + 1) 0 = 58)) (hr : dblL X = (dblL (X.drop i)).map fun p => (X.take i ++ p.1, p.2)) : dblL X = (dblL (X.drop (i + 1))).map fun p => (X.take (i + 1) ++ p.1, p.2) := by
  rw [hr]
  have e1 : X.drop i = X.getD i 0 :: X.drop (i + 1) := drop_getD (by omega)
  have e2 : X.drop (i + 1) = X.getD (i + 1) 0 :: X.drop (i + 1 + 1) := drop_getD hi
  rw [e1, e2]
  rw [show dblL (X.getD i 0 :: X.getD (i + 1) 0 :: X.drop (i + 1 + 1)) = (dblL (X.getD (i + 1) 0 :: X.drop (i + 1 + 1))).map fun p => (X.getD i 0 :: p.1, p.2) by
    conv => lhs; unfold dblL
    rw [if_neg h]]
  rw [Option.map_map, take_snocI X (by omega)]
  congr 1
  funext p
  simp
theorem dbl_hit {X : List Int} {i : Nat} (hi : i + 1 < X.length) (h1 : X.getD i 0 = 58) (h2 : X.getD (i + 1) 0 = 58) (hr : dblL X = (dblL (X.drop i)).map fun p => (X.take i ++ p.1, p.2)) : dblL X = some (X.take i, X.drop (i + 2)) := by
  rw [hr]
  have e1 : X.drop i = X.getD i 0 :: X.drop (i + 1) := drop_getD (by omega)
  have e2 : X.drop (i + 1) = X.getD (i + 1) 0 :: X.drop (i + 1 + 1) := drop_getD hi
  rw [e1, e2, h1, h2]
  conv => lhs; unfold dblL
  rw [if_pos ⟨rfl, rfl⟩]
  simp
theorem dbl_end {X : List Int} {i : Nat} (hi : X.length ≤ i + 1) (hr : dblL X = (dblL (X.drop i)).map fun p => (X.take i ++ p.1, p.2)) : dblL X = none := by
  rw [hr]
  have : (X.drop i).length ≤ 1 := by rw [List.length_drop]; omega
  match hq : X.drop i, this with
  | [], _ => rfl
  | [a], _ => rfl
  | a :: b :: r, h => simp at h
def SixP (X : List Int) (e : Ending) : Prop := match rsixL X with
  | some y => e = .returned (.tuple #[.string (strOfNums y), .bool true])
  | none => ∃ t : ByteArray, e = .returned (.tuple #[.string t, .bool false])
theorem six_two {X A B : List Int} (h : dblL X = some (A, B)) : rsixL X = match sideL A, sideL B with
    | some x, some y => if 7 < x.length + y.length then none else some (joinL [58] x ++ [58, 58] ++ joinL [58] y)
    | _, _ => none := by
  unfold rsixL; rw [h]; rfl
theorem six_one {X : List Int} (h : dblL X = none) : rsixL X = match sideL X with
    | some l => if l.length = 8 then some (joinL [58] l) else none
    | none => none := by
  unfold rsixL; rw [h]; rfl
theorem SixP.no {X : List Int} {t : ByteArray} (h : rsixL X = none) : SixP X (.returned (.tuple #[.string t, .bool false])) := by unfold SixP; rw [h]; exact ⟨_, rfl⟩
theorem SixP.yes {X y : List Int} (h : rsixL X = some y) : SixP X (.returned (.tuple #[.string (strOfNums y), .bool true])) := by unfold SixP; rw [h]
theorem side_some {X : List Int} {l : List (List Int)} (h : sideL X = some l) : sideV X = .tuple #[.string (strOfNums (joinL [58] l)), .int .i64 (l.length : Nat), .bool true] := by unfold sideV; rw [h]
theorem side_none {X : List Int} (h : sideL X = none) : sideV X = .tuple #[.string ⟨#[]⟩, .int .i64 0, .bool false] := by unfold sideV; rw [h]
theorem side_size {X : List Int} {l : List (List Int)} (h : sideL X = some l) : (joinL [58] l).length ≤ X.length ∧ l.length ≤ X.length + 1 := by
  refine ⟨side_shrink h, ?_⟩
  unfold sideL at h
  split at h
  · injection h with h; subst h; simp
  · unfold grpL at h
    split at h
    · injection h with h; subst h
      rw [List.length_map]
      have h1 := cut_sum 58 X
      have h2 : ∀ l : List (List Int), l.length ≤ (l.map (fun p => p.length + 1)).sum := fun l => by
        induction l with
        | nil => simp
        | cons a l ih => rw [List.map_cons, List.sum_cons, List.length_cons]; omega
      have h3 := h2 (cutL 58 X)
      omega
    · cases h
set_option maxHeartbeats 4000000 in
theorem rsix_any (s : ByteArray) (w : World) (hs : s.size ≤ 4000000) : Calls Tryz.prog 61 #[.string s] w fun e w' => SixP (byteL s) e ∧ Below w.heap.size w w' := by
  have HL := kd (byteL_len s)
  have NO := kd (fun t h => SixP.no (X := byteL s) (t := t) h)
  have YES := kd (fun y h => SixP.yes (X := byteL s) (y := y) h)
  have S2 := kd (fun A B h => six_two (X := byteL s) (A := A) (B := B) h)
  have S1 := kd (six_one (X := byteL s))
  have GA := kd (fun w => rgroups_any s w hs)
  have GL := kd (fun i w => rgroups_any (s.extract 0 i) w (by rw [ByteArray.size_extract]; omega))
  have GR := kd (fun i w => rgroups_any (s.extract i s.size) w (by rw [ByteArray.size_extract]; omega))
  have XL := kd (fun i => show byteL (s.extract 0 i) = (byteL s).take i by rw [byteL_extract, List.drop_zero, Nat.sub_zero])
  have XR := kd (fun i => show byteL (s.extract i s.size) = (byteL s).drop i by rw [byteL_extract, List.take_of_length_le (by rw [List.length_drop, byteL_len]; exact Nat.le_refl _)])
  generalize SixP (byteL s) = PP at *
  generalize rsixL (byteL s) = R at *
  obtain ⟨X, hX⟩ : ∃ X, byteL s = X := ⟨_, rfl⟩
  have HX := kd hX
  rw [hX] at HL S2 S1 GA XL XR
  clear hX
  go_enter Tryz.func61, Tryz.ntmps61
  go_wp2_with fail
  go_loopw [4] (fun v wr => ∃ i : Nat, i ≤ s.size ∧ v = .int .i64 i ∧ w = wr ∧ Hid (dblL X = (dblL (X.drop i)).map fun p => (X.take i ++ p.1, p.2))) (fun v _ => s.size - (intOf v).toNat)
  case atStart => exact ⟨0, Nat.zero_le _, rfl, rfl, kd (by rw [List.drop_zero, List.take_zero]; cases dblL X <;> rfl)⟩
  case round =>
    obtain ⟨i, hi, rfl, rfl, DB⟩ := hrel
    by_cases hlt : i + 1 < s.size
    · have hd : decide ((i : Int) + 1 < (s.size : Int)) = true := by simp; omega
      have d1 := fun w => idx_str s (i := i) (by omega) (z := (i : Int)) rfl w
      have d2 := fun w => idx_str s (i := i + 1) hlt (z := (i : Int) + 1) (by omega) w
      rw [HX.out] at d1 d2
      have hlt' : i + 1 < X.length := by rw [HL.out]; exact hlt
      have ST := kd (fun h => dbl_step hlt' h DB.out)
      have HT := kd (fun h1 h2 => dbl_hit hlt' h1 h2 DB.out)
      clear hlt'
      generalize X.getD i 0 = c at *
      generalize X.getD (i + 1) 0 = d at *
      by_cases h1 : c = 58 ∧ d = 58
      · have E := kd (HT.out h1.1 h1.2)
        obtain ⟨h1, h2⟩ := h1
        have e1 : (c != 58) = false := by simp [h1]
        have e2 : (d != 58) = false := by simp [h2]
        have RE := kd (S2.out _ _ E.out)
        have GL2 := kd (GL.out i)
        have GR2 := kd (GR.out (i + 2))
        rw [XL.out] at GL2
        rw [XR.out] at GR2
        have ZL := kd (fun l => side_size (X := X.take i) (l := l))
        have ZR := kd (fun l => side_size (X := X.drop (i + 2)) (l := l))
        rw [List.length_take, HL.out] at ZL
        rw [List.length_drop, HL.out] at ZR
        have SA := kd (fun l => side_some (X := X.take i) (l := l)); have SB := kd (side_none (X := X.take i))
        have SC := kd (fun l => side_some (X := X.drop (i + 2)) (l := l)); have SD := kd (side_none (X := X.drop (i + 2)))
        clear ST HT S1 S2 E DB GA GL GR XL XR
        have i1 : (i : Int) ≤ (s.size : Int) := by omega
        have i2 : (i : Int) + 2 ≤ (s.size : Int) := by omega
        generalize sideV (X.take i) = VA at *
        generalize sideV (X.drop (i + 2)) = VB at *
        generalize sideL (X.take i) = LA at *
        generalize sideL (X.drop (i + 2)) = LB at *
        cases LA with
        | none =>
          have E := kd (show R = none from RE.out)
          have e := SB.out rfl
          subst e
          clear SA SB RE
          cases LB with
          | none =>
            have e := SD.out rfl
            subst e
            clear SC SD
            go_wp2_with fail
            refine (GL2.out _).mono ?_
            rintro _ w2 ⟨rfl, hb2⟩
            have B2 := kd hb2
            clear hb2
            go_wp2_with fail
            refine (GR2.out _).mono ?_
            rintro _ w3 ⟨rfl, hb3⟩
            have B3 := kd (bthen B2.out hb3)
            clear hb3
            go_wp2_with fail
            go_ret2
            exact ⟨NO.out _ E.out, B3.out⟩
          | some lb =>
            have e := SC.out lb rfl
            subst e
            clear SC SD
            go_wp2_with fail
            refine (GL2.out _).mono ?_
            rintro _ w2 ⟨rfl, hb2⟩
            have B2 := kd hb2
            clear hb2
            go_wp2_with fail
            refine (GR2.out _).mono ?_
            rintro _ w3 ⟨rfl, hb3⟩
            have B3 := kd (bthen B2.out hb3)
            clear hb3
            go_wp2_with fail
            go_ret2
            exact ⟨NO.out _ E.out, B3.out⟩
        | some la =>
          have e := SA.out la rfl
          subst e
          obtain ⟨za1, za2⟩ := ZL.out la rfl
          clear SA SB ZL
          cases LB with
          | none =>
            have E := kd (show R = none from RE.out)
            have e := SD.out rfl
            subst e
            clear SC SD RE
            go_wp2_with fail
            refine (GL2.out _).mono ?_
            rintro _ w2 ⟨rfl, hb2⟩
            have B2 := kd hb2
            clear hb2
            go_wp2_with fail
            refine (GR2.out _).mono ?_
            rintro _ w3 ⟨rfl, hb3⟩
            have B3 := kd (bthen B2.out hb3)
            clear hb3
            go_wp2_with fail
            go_ret2
            exact ⟨NO.out _ E.out, B3.out⟩
          | some lb =>
            have e := SC.out lb rfl
            subst e
            obtain ⟨zb1, zb2⟩ := ZR.out lb rfl
            clear SC SD ZR
            have RE2 := kd (show R = if 7 < la.length + lb.length then none else some (joinL [58] la ++ [58, 58] ++ joinL [58] lb) from RE.out)
            clear RE
            have JA := num_size (joinL [58] la)
            have JB := num_size (joinL [58] lb)
            have JE := kd (show strOfNums (joinL [58] la ++ [58, 58] ++ joinL [58] lb) = (strOfNums (joinL [58] la) ++ (⟨#[58, 58]⟩ : ByteArray)) ++ strOfNums (joinL [58] lb) by rw [show (⟨#[58, 58]⟩ : ByteArray) = strOfNums [58, 58] from rfl, str_app, str_app])
            rw [← JA] at za1
            rw [← JB] at zb1
            have JY := kd (YES.out (joinL [58] la ++ [58, 58] ++ joinL [58] lb))
            rw [JE.out] at JY
            generalize joinL [58] la ++ [58, 58] ++ joinL [58] lb = JJ at *
            generalize strOfNums (joinL [58] la) = ta at *
            generalize strOfNums (joinL [58] lb) = tb at *
            have C1 : (⟨#[58, 58]⟩ : ByteArray).size = 2 := rfl
            have A0 : ∀ w, (Op.stringOp .add ta (⟨#[58, 58]⟩ : ByteArray)).run Tryz.prog w = .ok (.string (ta ++ (⟨#[58, 58]⟩ : ByteArray))) w := fun w => by rw [run_string_add_sum (P := Tryz.prog) w _ _ (by omega)]
            have A1 : ∀ w, (Op.stringOp .add (ta ++ (⟨#[58, 58]⟩ : ByteArray)) tb).run Tryz.prog w = .ok (.string ((ta ++ (⟨#[58, 58]⟩ : ByteArray)) ++ tb)) w := fun w => by rw [run_string_add_sum (P := Tryz.prog) w _ _ (by rw [ByteArray.size_append]; omega)]
            by_cases h7 : 7 < la.length + lb.length
            · have E := kd (RE2.out.trans (if_pos h7))
              have q7 : decide ((7 : Int) < (la.length : Int) + (lb.length : Int)) = true := by simp; omega
              clear RE2 A0 A1
              go_wp2_with fail
              refine (GL2.out _).mono ?_
              rintro _ w2 ⟨rfl, hb2⟩
              have B2 := kd hb2
              clear hb2
              go_wp2_with fail
              refine (GR2.out _).mono ?_
              rintro _ w3 ⟨rfl, hb3⟩
              have B3 := kd (bthen B2.out hb3)
              clear hb3
              go_wp2_with fail
              go_ret2
              exact ⟨NO.out _ E.out, B3.out⟩
            · have E := kd (RE2.out.trans (if_neg h7))
              have q7 : decide ((7 : Int) < (la.length : Int) + (lb.length : Int)) = false := by simp; omega
              clear RE2
              go_wp2_with fail
              refine (GL2.out _).mono ?_
              rintro _ w2 ⟨rfl, hb2⟩
              have B2 := kd hb2
              clear hb2
              go_wp2_with fail
              refine (GR2.out _).mono ?_
              rintro _ w3 ⟨rfl, hb3⟩
              have B3 := kd (bthen B2.out hb3)
              clear hb3
              go_wp2_with fail
              go_ret2
              exact ⟨JY.out E.out, B3.out⟩
      · have E := kd (ST.out h1)
        have hor : (c != 58) = true ∨ ((c != 58) = false ∧ (d != 58) = true) := by
          by_cases h2 : c = 58
          · exact .inr ⟨by simp [h2], by simp; exact fun h => h1 ⟨h2, h⟩⟩
          · exact .inl (by simpa using h2)
        clear ST HT h1 S1 S2 GA GL GR XL XR DB
        rcases hor with e1 | ⟨e1, e2⟩
        all_goals
          go_wp2_with fail
          go_roundw
          case rel => exact ⟨i + 1, by omega, by go_num, by first | rfl | trivial, E⟩
          case measure => simp [intOf]; omega
    · have hd : decide ((i : Int) + 1 < (s.size : Int)) = false := by simp; omega
      have E := kd (dbl_end (by rw [HL.out]; omega) DB.out)
      have RE := kd (S1.out E.out)
      have SC := kd (fun l => side_some (X := X) (l := l)); have SD := kd (side_none (X := X))
      clear S1 S2 E DB GL GR XL XR hlt
      generalize sideV X = VA at *
      generalize sideL X = LA at *
      cases LA with
      | none =>
        have E := kd (show R = none from RE.out)
        have e := SD.out rfl
        subst e
        go_wp2_with fail
        refine (GA.out _).mono ?_
        rintro _ w2 ⟨rfl, hb2⟩
        have B2 := kd hb2
        clear hb2
        go_wp2_with fail
        go_ret2
        exact ⟨NO.out _ E.out, B2.out⟩
      | some l =>
        have e := SC.out l rfl
        subst e
        have RE2 := kd (show R = if l.length = 8 then some (joinL [58] l) else none from RE.out)
        clear RE SC SD
        by_cases h8 : l.length = 8
        · have E := kd (RE2.out.trans (if_pos h8))
          have q8 : ((l.length : Int) == 8) = true := by simp; omega
          have q8' : (l.length == 8) = true := by simp; omega
          clear RE2 h8
          go_wp2_with fail
          refine (GA.out _).mono ?_
          rintro _ w2 ⟨rfl, hb2⟩
          have B2 := kd hb2
          clear hb2
          go_wp2_with fail
          go_ret2
          exact ⟨YES.out _ E.out, B2.out⟩
        · have E := kd (RE2.out.trans (if_neg h8))
          have q8 : ((l.length : Int) == 8) = false := by simp; omega
          have q8' : (l.length == 8) = false := by simp; omega
          clear RE2 h8
          go_wp2_with fail
          refine (GA.out _).mono ?_
          rintro _ w2 ⟨rfl, hb2⟩
          have B2 := kd hb2
          clear hb2
          go_wp2_with fail
          go_ret2
          exact ⟨NO.out _ E.out, B2.out⟩
end Go.Proofs.YthfonniieaiocaaGreatDoor
namespace Go.Proofs.YthfonniieaiocaaGreatDoor
open Go.RowKit

theorem rh_brack {X : List Int} (h : 2 ≤ X.length ∧ X.getD 0 0 = 91 ∧ X.getD (X.length - 1) 0 = 93) : hostL X = (rsixL (subL X 1 (X.length - 1))).map fun g => [91] ++ g ++ [93] := by rw [← rhostL_eq]; unfold rhostL; rw [if_pos h]
theorem rh_dots {X : List Int} (h : ¬ (2 ≤ X.length ∧ X.getD 0 0 = 91 ∧ X.getD (X.length - 1) 0 = 93)) : hostL X = rhostD X := by rw [← rhostL_eq]; unfold rhostL; rw [if_neg h]
theorem rhD_bad {X p : List Int} {j : Nat} (h : (cutL 46 X)[j]? = some p) (hp : labOK p = false) : rhostD X = none := by
  unfold rhostD
  rw [if_neg]
  rintro ⟨h2, _⟩
  rw [List.all_eq_true.1 h2 p (List.mem_of_getElem? h)] at hp
  cases hp
theorem rhD_end {X : List Int} {b8 b9 : Bool} (h : ∀ p ∈ cutL 46 X, labOK p = true) (h8 : b8 = (decide ((cutL 46 X).length = 4) && (cutL 46 X).all rnum)) (h9 : b9 = (cutL 46 X).any wordL) : rhostD X = if X.length ≤ 255 ∧ (b9 = true ∨ b8 = true) then some (lowS X) else none := by
  unfold rhostD
  subst h8 h9
  by_cases hh : X.length ≤ 255 ∧ ((cutL 46 X).any wordL = true ∨ (decide ((cutL 46 X).length = 4) && (cutL 46 X).all rnum) = true)
  · rw [if_pos hh, if_pos]
    refine ⟨List.all_eq_true.2 h, hh.1, ?_⟩
    rcases hh.2 with h1 | h1
    · exact .inl h1
    · rw [Bool.and_eq_true, decide_eq_true_eq] at h1; exact .inr h1
  · rw [if_neg hh, if_neg]
    rintro ⟨_, h2, h3⟩
    refine hh ⟨h2, ?_⟩
    rcases h3 with h1 | h1
    · exact .inl h1
    · exact .inr (by rw [Bool.and_eq_true, decide_eq_true_eq]; exact h1)
set_option maxHeartbeats 4000000 in
theorem rhost_any (s : ByteArray) (w : World) (hs : s.size ≤ 4000000) : Calls Tryz.prog 21 #[.string s] w fun e w' => e = .returned (hostV (hostL (byteL s))) ∧ Below w.heap.size w w' := by
  have HL := kd (byteL_len s)
  have RB := kd (rh_brack (X := byteL s)); have RD := kd (rh_dots (X := byteL s))
  have HZ := kd (fun h => host_len (s := byteL s) (h := h))
  have DB := kd (fun p j h hp => rhD_bad (X := byteL s) (p := p) (j := j) h hp)
  have DE := kd (fun b8 b9 h h8 h9 => rhD_end (X := byteL s) (b8 := b8) (b9 := b9) h h8 h9)
  have CB := kd (cutL_by (sep := 46) (byteL_by s))
  have CZ := kd (fun p (h : p ∈ cutL 46 (byteL s)) => show (strOfNums p).size ≤ 4000000 by have h1 := cut_le h; rw [byteL_len] at h1; rw [num_size]; omega)
  have PC := kd (fun w => rpieces_any s 46 w hs)
  have LW := kd (fun w => reflower_any s w hs)
  have SX := kd (fun w => rsix_any (s.extract 1 (s.size - 1)) w (by rw [ByteArray.size_extract]; omega))
  rw [byteL_extract] at SX
  have SXX := kd (show ((byteL s).drop 1).take (s.size - 1 - 1) = subL (byteL s) 1 (s.size - 1) from rfl)
  rw [SXX.out] at SX
  rw [byteL_len] at RB RD HZ DE
  have HV1 := kd (fun (a : ByteArray) (h : List Int) (hR : hostL (byteL s) = some h) ha => ret_host (a := a) hR ha)
  have HV0 := kd (fun hR => ret_hno (R := hostL (byteL s)) hR)
  generalize hostV (hostL (byteL s)) = V at *
  generalize hostL (byteL s) = R at *
  generalize rhostD (byteL s) = D at *
  obtain ⟨X, hX⟩ : ∃ X, byteL s = X := ⟨_, rfl⟩
  have HX := kd hX
  rw [hX] at HL RB RD DB DE CB CZ PC LW SX SXX
  clear hX SXX
  generalize cutL 46 X = P at *
  go_enter Tryz.func21, Tryz.ntmps21
  have QB : (2 ≤ s.size ∧ X.getD 0 0 = 91 ∧ X.getD (s.size - 1) 0 = 93) ∨ (¬ (2 ≤ s.size ∧ X.getD 0 0 = 91 ∧ X.getD (s.size - 1) 0 = 93)) := Classical.em _
  rcases QB with hb | hb
  · have RE := kd (RB.out hb)
    obtain ⟨h2, h3, h4⟩ := hb
    have d0 : decide ((2 : Int) ≤ (s.size : Int)) = true := by simp; omega
    have j0 := fun w => idx_str s (i := 0) (by omega) (z := 0) rfl w
    have j1 := fun w => idx_str s (i := s.size - 1) (by omega) (z := (s.size : Int) - 1) (by omega) w
    rw [HX.out] at j0 j1
    rw [h3] at j0
    rw [h4] at j1
    have i1 : (1 : Int) ≤ (s.size : Int) - 1 := by omega
    have i2 : (s.size : Int) - 1 ≤ (s.size : Int) := by omega
    have i3 : ((s.size : Int) - 1).toNat = s.size - 1 := by omega
    clear RB RD DB DE CB CZ PC LW h3 h4
    go_wp2_with fail
    refine (SX.out _).mono ?_
    rintro e w2 ⟨hP, hb2⟩
    have B2 := kd hb2
    clear hb2 SX
    unfold SixP at hP
    generalize rsixL (subL X 1 (s.size - 1)) = SS at *
    cases SS with
    | none =>
      obtain ⟨t, rfl⟩ := hP
      have E := kd (HV0.out RE.out)
      go_wp2_with fail
      go_ret2
      exact ⟨E.out, B2.out⟩
    | some y =>
      subst hP
      have hz : ([91] ++ y ++ [93] : List Int).length ≤ s.size := HZ.out _ RE.out
      have E := kd (HV1.out (strOfNums ([91] ++ y ++ [93])) _ RE.out rfl)
      have YZ := num_size y
      have zz : y.length + 2 ≤ s.size := by
        have h1 : ([91] ++ y ++ [93] : List Int).length = y.length + 2 := by simp
        omega
      have EY := kd (show strOfNums ([91] ++ y ++ [93]) = ((⟨#[91]⟩ : ByteArray) ++ strOfNums y) ++ (⟨#[93]⟩ : ByteArray) by rw [show (⟨#[91]⟩ : ByteArray) = strOfNums [91] from rfl, show (⟨#[93]⟩ : ByteArray) = strOfNums [93] from rfl, str_app, str_app])
      rw [EY.out] at E
      have C1 : (⟨#[91]⟩ : ByteArray).size = 1 := rfl
      have C2 : (⟨#[93]⟩ : ByteArray).size = 1 := rfl
      clear RE hz HZ HV1 HV0 EY
      generalize strOfNums y = ty at *
      have A0 : ∀ w, (Op.stringOp .add (⟨#[91]⟩ : ByteArray) ty).run Tryz.prog w = .ok (.string ((⟨#[91]⟩ : ByteArray) ++ ty)) w := fun w => by rw [run_string_add_sum (P := Tryz.prog) w _ _ (by omega)]
      have A1 : ∀ w, (Op.stringOp .add ((⟨#[91]⟩ : ByteArray) ++ ty) (⟨#[93]⟩ : ByteArray)).run Tryz.prog w = .ok (.string (((⟨#[91]⟩ : ByteArray) ++ ty) ++ (⟨#[93]⟩ : ByteArray))) w := fun w => by rw [run_string_add_sum (P := Tryz.prog) w _ _ (by rw [ByteArray.size_append]; omega)]
      go_wp2_with fail
      go_ret2
      exact ⟨E.out, B2.out⟩
  have RE := kd (RD.out hb)
  have hor : s.size < 2 ∨ (2 ≤ s.size ∧ (X.getD 0 0 == 91) = false) ∨ (2 ≤ s.size ∧ (X.getD 0 0 == 91) = true ∧ (X.getD (s.size - 1) 0 == 93) = false) := by
    by_cases h1 : s.size < 2
    · exact .inl h1
    · by_cases h2 : X.getD 0 0 = 91
      · exact .inr (.inr ⟨by omega, by rw [h2]; rfl, by rw [beq_eq_false_iff_ne]; exact fun h => hb ⟨by omega, h2, h⟩⟩)
      · exact .inr (.inl ⟨by omega, by rw [beq_eq_false_iff_ne]; exact h2⟩)
  have J0 := kd (fun (h : 2 ≤ s.size) => fun w => idx_str s (i := 0) (by omega) (z := 0) rfl w)
  have J1 := kd (fun (h : 2 ≤ s.size) => fun w => idx_str s (i := s.size - 1) (by omega) (z := (s.size : Int) - 1) (by omega) w)
  rw [HX.out] at J0 J1
  have DBR := kd (fun p j h hp => HV0.out (RE.out.trans (DB.out p j h hp)))
  have DER := kd (fun b8 b9 h h8 h9 => RE.out.trans (DE.out b8 b9 h h8 h9))
  clear RB RD hb SX DB DE HZ RE
  generalize X.getD 0 0 = c0 at *
  generalize X.getD (s.size - 1) 0 = c1 at *
  rcases hor with h1 | ⟨h1, e0⟩ | ⟨h1, e0, e1⟩
  all_goals
    first
      | (have d0 : decide ((2 : Int) ≤ (s.size : Int)) = false := by simp; omega)
      | (have d0 : decide ((2 : Int) ≤ (s.size : Int)) = true := by simp; omega
         have j0 := J0.out h1
         have j1 := J1.out h1)
    clear J0 J1
    go_wp2_with fail
    refine (PC.out _).mono ?_
    rintro _ w1 ⟨g, cap, rfl, hb1, hg, hl, hc⟩
    have B1 := kd hb1; have HG := kd hg; have HC := kd hc
    have HLn : P.length ≤ 4000001 := by omega
    clear hb1 hg hc hl PC d0 h1
    try clear j0
    try clear e0
    try clear j1
    try clear e1
    go_wp2_with fail
    go_loopw [8, 9, 10] (fun v8 v9 v10 wr => ∃ (i : Nat) (b8 b9 : Bool), i ≤ P.length ∧ v8 = .bool b8 ∧ v9 = .bool b9 ∧ v10 = .int .i64 i ∧ Hid (b8 = (decide (P.length = 4) && (P.take i).all rnum)) ∧ Hid (b9 = (P.take i).any wordL) ∧ Hid (∀ p ∈ P.take i, labOK p = true) ∧ Hid (Below w1.heap.size w1 wr)) (fun _ _ v _ => P.length - (intOf v).toNat)
    all_goals try exact ⟨0, _, _, Nat.zero_le _, rfl, rfl, rfl, kd (by rw [List.take_zero, List.all_nil, Bool.and_true]; rw [Bool.eq_iff_iff]; simp; try omega), kd rfl, kd (fun p hp => by simp at hp), kd (Below.refl _ _)⟩
    obtain ⟨i, b8, b9, hi, rfl, rfl, rfl, E8, E9, AL, HB⟩ := hrel
    by_cases hlt : i < P.length
    · have hd : decide (i < P.length) = true := by simp [hlt]
      have hd2 : decide ((i : Int) < (P.length : Int)) = true := by simp; omega
      obtain ⟨p, hp⟩ : ∃ p, P[i]? = some p := ⟨_, List.getElem?_eq_getElem hlt⟩
      have k0 : wr.cell? ⟨g, i, none⟩ = some (.string (strOfNums p)) := (HB.out.cell (p := ⟨g, i, none⟩) HG.out).trans (HC.out i p hp)
      have BP := CB.out p (List.mem_of_getElem? hp)
      have SZ : (strOfNums p).size ≤ 4000000 := CZ.out p (List.mem_of_getElem? hp)
      have BD := kd (DBR.out p i hp)
      have TK := kd (show P.take (i + 1) = P.take i ++ [p] by rw [List.take_add_one, hp]; rfl)
      have AN := kd (show labOK p = true → ∀ q ∈ P.take (i + 1), labOK q = true from fun h q hq => by
        rw [TK.out] at hq
        rcases List.mem_append.1 hq with hq | hq
        · exact AL.out q hq
        · rw [List.mem_singleton] at hq; subst hq; exact h)
      have N8 := kd (show (decide (P.length = 4) && (P.take (i + 1)).all rnum) = (b8 && rnum p) by rw [TK.out, List.all_append, E8.out]; simp [Bool.and_assoc])
      have N9 := kd (show (P.take (i + 1)).any wordL = (b9 || wordL p) by rw [TK.out, List.any_append, ← E9.out]; simp)
      have LB := kd (fun w => rlabel_any (strOfNums p) w SZ)
      have NU := kd (fun w => rnumber_any (strOfNums p) w SZ)
      rw [byteL_str BP] at LB NU
      unfold labV at LB
      generalize labOK p = lo at *
      generalize wordL p = wo at *
      generalize rnum p = rn at *
      clear hp BP SZ TK
      cases lo with
      | false =>
        have E := kd (BD.out rfl)
        clear BD AN N8 N9
        go_wp2_with fail
        refine (LB.out _).mono ?_
        rintro _ _ ⟨rfl, rfl⟩
        go_wp2_with fail
        go_ret2
        exact ⟨E.out, bthen B1.out HB.out⟩
      | true =>
        have A2 := kd (AN.out rfl)
        clear BD AN
        cases b8 <;> cases b9
        all_goals
          go_wp2_with fail
          refine (LB.out _).mono ?_
          rintro _ _ ⟨rfl, rfl⟩
          have M8 := kd N8.out.symm
          have M9 := kd N9.out.symm
          clear N8 N9
          go_wp2_with (go_at_call 64; refine (NU.out _).mono ?_; rintro e w' ⟨rfl, rfl⟩)
          go_roundw
          case rel => exact ⟨i + 1, _, _, by omega, rfl, rfl, by go_num, M8, M9, A2, HB⟩
          case measure => simp [intOf]; omega
    · obtain rfl : i = P.length := by omega
      have hd2 : decide ((P.length : Int) < (P.length : Int)) = false := by simp
      have TK : P.take P.length = P := List.take_length
      have E := kd (DER.out b8 b9 (by have := AL.out; rw [TK] at this; exact this) (by have := E8.out; rw [TK] at this; exact this) (by have := E9.out; rw [TK] at this; exact this))
      clear TK AL E8 E9 DBR DER CB CZ
      by_cases h255 : s.size ≤ 255
      · have q2 : decide ((255 : Int) < (s.size : Int)) = false := by simp; omega
        cases b9 with
        | true =>
          have F := kd (HV1.out (strOfNums (lowS X)) _ (E.out.trans (if_pos ⟨h255, .inl rfl⟩)) rfl)
          clear E HV1 HV0
          go_wp2_with (go_at_call 65; refine (LW.out _).mono ?_; rintro e w' ⟨rfl, hb⟩; have B2 := kd hb; clear hb)
          go_ret2
          exact ⟨F.out, bthen B1.out (bthen HB.out B2.out)⟩
        | false =>
        cases b8 with
        | true =>
          have F := kd (HV1.out (strOfNums (lowS X)) _ (E.out.trans (if_pos ⟨h255, .inr rfl⟩)) rfl)
          clear E HV1 HV0
          go_wp2_with (go_at_call 65; refine (LW.out _).mono ?_; rintro e w' ⟨rfl, hb⟩; have B2 := kd hb; clear hb)
          go_ret2
          exact ⟨F.out, bthen B1.out (bthen HB.out B2.out)⟩
        | false =>
          have F := kd (HV0.out (E.out.trans (if_neg (by rintro ⟨_, h | h⟩ <;> cases h))))
          clear E HV1 HV0
          go_wp2_with fail
          go_ret2
          exact ⟨F.out, bthen B1.out HB.out⟩
      · have q2 : decide ((255 : Int) < (s.size : Int)) = true := by simp; omega
        have F := kd (HV0.out (E.out.trans (if_neg (fun h => h255 h.1))))
        clear E HV1 HV0
        go_wp2_with fail
        go_ret2
        exact ⟨F.out, bthen B1.out HB.out⟩
end Go.Proofs.YthfonniieaiocaaGreatDoor
