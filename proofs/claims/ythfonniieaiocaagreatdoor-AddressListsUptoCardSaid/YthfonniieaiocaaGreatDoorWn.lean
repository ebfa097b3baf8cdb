/- Contracts: the reference's number, group, groups. Contract: the reference's groups. -/
import Derived.Test.YthfonniieaiocaaGreatDoorWl
import Derived.Test.YthfonniieaiocaaGreatDoorUt
set_option linter.unusedVariables false
set_option linter.unusedSimpArgs false
set_option maxRecDepth 100000
namespace Go.Proofs.YthfonniieaiocaaGreatDoor
open Go.RowKit

theorem rnum_no {X : List Int} (h : ¬ ((1 ≤ X.length ∧ X.length ≤ 3) ∧ (¬ (1 < X.length ∧ X.getD 0 0 = 48) ∧ (X.all isDig = true ∧ valL X ≤ 255)))) : rnum X = false := by
  rw [Bool.eq_false_iff, ne_eq, rnum_iff]; exact h
theorem dig_sub {c : Int} (h : isDig c = true) : 48 ≤ c ∧ c ≤ 57 := by
  unfold isDig at h
  rw [Bool.and_eq_true, decide_eq_true_iff, decide_eq_true_iff] at h
  exact h
theorem val_small {l : List Int} (h : l.all isDig = true) (hl : l.length ≤ 3) : 0 ≤ valL l ∧ valL l ≤ 999 := by
  obtain ⟨h1, h2⟩ := valL_range l h
  have h3 : (10 : Int) ^ l.length ≤ 1000 := by
    rcases (show l.length = 0 ∨ l.length = 1 ∨ l.length = 2 ∨ l.length = 3 by omega) with e | e | e | e <;> rw [e] <;> decide
  omega
set_option maxHeartbeats 2000000 in
theorem rnumber_any (s : ByteArray) (w : World) (hs : s.size ≤ 4000000) : Calls Tryz.prog 64 #[.string s] w fun e w' => e = .returned (.bool (rnum (byteL s))) ∧ w = w' := by
  have HL := kd (byteL_len s)
  have LI := kd (rnum_iff (n := byteL s))
  have LN := kd (rnum_no (X := byteL s))
  rw [byteL_len] at LI LN
  generalize rnum (byteL s) = OKK at *
  obtain ⟨X, hX⟩ : ∃ X, byteL s = X := ⟨_, rfl⟩
  have HX := kd hX
  rw [hX] at HL LI LN
  clear hX
  go_enter Tryz.func64, Tryz.ntmps64
  by_cases h1 : 1 ≤ s.size ∧ s.size ≤ 3
  case neg =>
    have E := kd (LN.out fun h => h1 h.1)
    rcases (show s.size < 1 ∨ (1 ≤ s.size ∧ 3 < s.size) by omega) with h2 | ⟨h2, h3⟩
    · have q0 : decide ((s.size : Int) < 1) = true := by simp; omega
      clear h1
      go_wp2_with fail
      go_ret
      exact ⟨ret_bool E.out.symm, rfl⟩
    · have q0 : decide ((s.size : Int) < 1) = false := by simp; omega
      have q1 : decide ((3 : Int) < (s.size : Int)) = true := by simp; omega
      clear h1
      go_wp2_with fail
      go_ret
      exact ⟨ret_bool E.out.symm, rfl⟩
  obtain ⟨h1, h2⟩ := h1
  have q0 : decide ((s.size : Int) < 1) = false := by simp; omega
  have q1 : decide ((3 : Int) < (s.size : Int)) = false := by simp; omega
  have j0 := fun w => idx_str s (i := 0) (by omega) (z := 0) rfl w
  rw [HX.out] at j0
  obtain ⟨c0, hc0⟩ : ∃ c, X.getD 0 0 = c := ⟨_, rfl⟩
  rw [hc0] at j0 LI LN
  clear hc0
  by_cases h3 : 1 < s.size ∧ c0 = 48
  · have E := kd (LN.out fun h => h.2.1 h3)
    obtain ⟨h3, h4⟩ := h3
    have e0 : (c0 == 48) = true := by simp [h4]
    have q2 : decide ((1 : Int) < (s.size : Int)) = true := by simp; omega
    clear LI LN
    go_wp2_with fail
    go_ret
    exact ⟨ret_bool E.out.symm, rfl⟩
  have LI2 := kd (show X.all isDig = true → valL X ≤ 255 → OKK = true from fun h h9 => LI.out.2 ⟨⟨h1, h2⟩, h3, h, h9⟩)
  have LN2 := kd (show ¬ (X.all isDig = true ∧ valL X ≤ 255) → OKK = false from fun h => LN.out fun h9 => h h9.2.2)
  have hor : s.size = 1 ∨ (1 < s.size ∧ (c0 == 48) = false) := by
    by_cases h4 : s.size = 1
    · exact .inl h4
    · exact .inr ⟨by omega, by simp; exact fun h => h3 ⟨by omega, h⟩⟩
  clear LI LN h3
  rcases hor with h3 | ⟨h3, e0⟩
  case' inl => have q2 : decide ((1 : Int) < (s.size : Int)) = false := by simp; omega
  case' inr => have q2 : decide ((1 : Int) < (s.size : Int)) = true := by simp; omega
  all_goals
    clear h3
    go_wp2_with fail
    go_loopw [3, 4] (fun v3 v4 wr => ∃ (i : Nat) (n : Int), i ≤ s.size ∧ v3 = .int .i64 n ∧ v4 = .int .i64 i ∧ w = wr ∧ 0 ≤ n ∧ n ≤ 999 ∧ Hid (n = valL (X.take i)) ∧ Hid ((X.take i).all isDig = true)) (fun _ v _ => s.size - (intOf v).toNat)
    case atStart => exact ⟨0, 0, Nat.zero_le _, rfl, rfl, rfl, by omega, by omega, kd rfl, kd rfl⟩
    case round =>
      clear q0 q1 q2 j0
      try clear e0
      obtain ⟨i, n, hi, rfl, rfl, rfl, n0, n9, EN, AL⟩ := hrel
      by_cases hlt : i < s.size
      · have hd : decide ((i : Int) < (s.size : Int)) = true := by simp; omega
        have d1 := fun w => idx_str s (i := i) hlt (z := (i : Int)) rfl w
        rw [HX.out] at d1
        have hlt' : i < X.length := by rw [HL.out]; exact hlt
        have TS := kd (take_snocI X hlt')
        have BD := kd (show isDig (X.getD i 0) = false → OKK = false from fun h => LN2.out fun h9 => by rw [List.all_eq_true.1 h9.1 _ (getD_mem hlt')] at h; cases h)
        have L3 := kd (show (X.take (i + 1)).length ≤ 3 by rw [List.length_take]; omega)
        clear hlt'
        generalize X.getD i 0 = c at *
        have DG := kd (rdigit_any c w)
        cases hp : isDig c with
        | false =>
          rw [hp] at DG
          have E := kd (BD.out hp)
          clear hp
          go_wp2_with (go_at_call 95; refine DG.out.mono ?_; rintro e w' ⟨rfl, rfl⟩)
          go_ret
          exact ⟨ret_bool E.out.symm, rfl⟩
        | true =>
          rw [hp] at DG
          obtain ⟨c1, c2⟩ := dig_sub hp
          have A2 := kd (show (X.take (i + 1)).all isDig = true by rw [TS.out, List.all_append, AL.out]; simp [hp])
          have E2 := kd (show 10 * n + (c - 48) = valL (X.take (i + 1)) by rw [TS.out, valL_snoc, ← EN.out])
          obtain ⟨b1, b2⟩ := val_small A2.out L3.out
          rw [← E2.out] at b1 b2
          clear hp BD EN AL
          go_wp2_with (go_at_call 95; refine DG.out.mono ?_; rintro e w' ⟨rfl, rfl⟩)
          go_roundw
          case rel => exact ⟨i + 1, _, by omega, rfl, by go_num, by first | rfl | trivial, b1, b2, E2, A2⟩
          case measure => simp [intOf]; omega
      · obtain rfl : i = s.size := by omega
        have hd : decide ((s.size : Int) < (s.size : Int)) = false := by simp
        have TK : X.take s.size = X := List.take_of_length_le (by rw [HL.out]; exact Nat.le_refl _)
        have E := kd (show OKK = decide (n ≤ 255) by
          have h := AL.out
          have h2 := EN.out
          rw [TK] at h h2
          by_cases h9 : n ≤ 255
          · rw [decide_eq_true h9]; exact LI2.out h (by rw [← h2]; exact h9)
          · rw [decide_eq_false h9]; exact LN2.out fun h8 => h9 (by rw [h2]; exact h8.2))
        clear TK LI2 LN2
        go_wp2_with fail
        go_ret
        exact ⟨ret_bool E.out.symm, rfl⟩
def grpV (X : List Int) : Value := if grpOK X = true then .tuple #[.string (strOfNums (grpN X)), .bool true] else .tuple #[.string ⟨#[]⟩, .bool false]
theorem grpV_bad {X : List Int} (h : ¬ ((1 ≤ X.length ∧ X.length ≤ 4) ∧ ∀ c ∈ X, 0 ≤ hexV c)) : Value.tuple #[.string ⟨#[]⟩, .bool false] = grpV X := by
  unfold grpV
  rw [if_neg]
  intro h2
  have h3 := grpOK_iff.1 h2
  exact h ⟨h3.1, h3.2⟩
theorem grpV_ok {X Y : List Int} (h : (1 ≤ X.length ∧ X.length ≤ 4) ∧ ∀ c ∈ X, 0 ≤ hexV c) (hY : lowS Y = grpN X) : Value.tuple #[.string (strOfNums (lowS Y)), .bool true] = grpV X := by
  unfold grpV
  rw [if_pos (grpOK_iff.2 ⟨h.1, h.2⟩), hY]
theorem strip_go {Y : List Int} (h : 1 < Y.length) (h2 : Y.getD 0 0 = 48) : rstrip Y = rstrip (Y.drop 1) ∧ Y.drop 1 ≠ [] := by
  match Y, h with
  | c :: d :: r, _ =>
    have : c = 48 := h2
    subst this
    exact ⟨by rw [rstrip, if_pos rfl]; rfl, by simp⟩
theorem strip_stop {Y : List Int} (h0 : Y ≠ []) (h : ¬ (1 < Y.length ∧ Y.getD 0 0 = 48)) : rstrip Y = Y := by
  match Y, h0 with
  | [c], _ => rfl
  | c :: d :: r, _ =>
    have : c ≠ 48 := fun e => h ⟨by simp, e⟩
    rw [rstrip, if_neg this]
theorem sub_tail (Y : List Int) (n : Nat) (h : Y.length = n) : subL Y 1 n = Y.drop 1 := by unfold subL; rw [List.take_of_length_le (by rw [List.length_drop]; omega)]
set_option maxHeartbeats 2000000 in
theorem rgroup_any (s : ByteArray) (w : World) (hs : s.size ≤ 4000000) : Calls Tryz.prog 165 #[.string s] w fun e w' => e = .returned (grpV (byteL s)) ∧ Below w.heap.size w w' := by
  have HL := kd (byteL_len s)
  have HB := kd (byteL_by s)
  have GB := kd (grpV_bad (X := byteL s))
  have GO := kd (fun Y h hY => grpV_ok (X := byteL s) (Y := Y) h hY)
  have SE := kd (fun h => rstrip_eq (g := byteL s) h)
  have SB := kd (str_byteL s)
  rw [byteL_len] at GB GO
  generalize grpV (byteL s) = V at *
  generalize grpN (byteL s) = GN at *
  obtain ⟨X, hX⟩ : ∃ X, byteL s = X := ⟨_, rfl⟩
  have HX := kd hX
  rw [hX] at HL HB GB GO SE SB
  clear hX
  go_enter Tryz.func165, Tryz.ntmps165
  by_cases h1 : 1 ≤ s.size ∧ s.size ≤ 4
  case neg =>
    have E := kd (GB.out fun h => h1 h.1)
    rcases (show s.size < 1 ∨ (1 ≤ s.size ∧ 4 < s.size) by omega) with h2 | ⟨h2, h3⟩
    · have q0 : decide ((s.size : Int) < 1) = true := by simp; omega
      clear h1
      go_wp2_with fail
      go_ret2
      exact ⟨ret_un E.out, Below.refl _ _⟩
    · have q0 : decide ((s.size : Int) < 1) = false := by simp; omega
      have q1 : decide ((4 : Int) < (s.size : Int)) = true := by simp; omega
      clear h1
      go_wp2_with fail
      go_ret2
      exact ⟨ret_un E.out, Below.refl _ _⟩
  obtain ⟨h1, h2⟩ := h1
  have q0 : decide ((s.size : Int) < 1) = false := by simp; omega
  have q1 : decide ((4 : Int) < (s.size : Int)) = false := by simp; omega
  have GO2 := kd (fun Y (h : ∀ c ∈ X, 0 ≤ hexV c) hY => GO.out Y ⟨⟨h1, h2⟩, h⟩ hY)
  have GB2 := kd (fun (h : ¬ ∀ c ∈ X, 0 ≤ hexV c) => GB.out fun h9 => h h9.2)
  clear GO GB
  go_wp2_with fail
  go_loopw [4] (fun v wr => ∃ i : Nat, i ≤ s.size ∧ v = .int .i64 i ∧ w = wr ∧ Hid (∀ c ∈ X.take i, 0 ≤ hexV c)) (fun v _ => s.size - (intOf v).toNat)
  case atStart => exact ⟨0, Nat.zero_le _, rfl, rfl, kd (fun c hc => by simp at hc)⟩
  case round =>
    clear q0 q1
    obtain ⟨i, hi, rfl, rfl, AL⟩ := hrel
    by_cases hlt : i < s.size
    · have hd : decide ((i : Int) < (s.size : Int)) = true := by simp; omega
      have d1 := fun w => idx_str s (i := i) hlt (z := (i : Int)) rfl w
      rw [HX.out] at d1
      have hlt' : i < X.length := by rw [HL.out]; exact hlt
      have TS := kd (take_snocI X hlt')
      have BD := kd (show hexV (X.getD i 0) < 0 → _ from fun h => GB2.out fun h9 => by have := h9 _ (getD_mem hlt'); omega)
      have XB := HB.out _ (getD_mem hlt')
      clear hlt'
      generalize X.getD i 0 = c at *
      have HX2 := kd (rhex_any c w XB.1 XB.2)
      have NX := kd (show 0 ≤ hexV c → ∀ d ∈ X.take (i + 1), 0 ≤ hexV d from fun h d hd => by
        rw [TS.out] at hd
        rcases List.mem_append.1 hd with hd | hd
        · exact AL.out d hd
        · rw [List.mem_singleton] at hd; subst hd; exact h)
      generalize hexV c = hv at *
      clear XB
      by_cases hn : hv < 0
      · have E := kd (BD.out hn)
        have q1 : decide (hv < 0) = true := by simp [hn]
        clear BD NX
        go_wp2_with (go_at_call 123; refine HX2.out.mono ?_; rintro e w' ⟨rfl, rfl⟩)
        go_ret2
        exact ⟨ret_un E.out, Below.refl _ _⟩
      · have q1 : decide (hv < 0) = false := by simp; omega
        have E := kd (NX.out (by omega))
        clear BD NX
        go_wp2_with (go_at_call 123; refine HX2.out.mono ?_; rintro e w' ⟨rfl, rfl⟩)
        go_roundw
        case rel => exact ⟨i + 1, by omega, by go_num, by first | rfl | trivial, E⟩
        case measure => simp [intOf]; omega
    · obtain rfl : i = s.size := by omega
      have hd : decide ((s.size : Int) < (s.size : Int)) = false := by simp
      have TK : X.take s.size = X := List.take_of_length_le (by rw [HL.out]; exact Nat.le_refl _)
      have AX := kd (show ∀ c ∈ X, 0 ≤ hexV c by have := AL.out; rw [TK] at this; exact this)
      have XN := kd (show X ≠ [] from fun e => by have := HL.out; rw [e] at this; simp at this; omega)
      clear TK AL GB2
      go_wp2_with fail
      go_loopw [0] (fun v wr => ∃ Y : List Int, v = .string (strOfNums Y) ∧ w = wr ∧ Y.length ≤ 4 ∧ Hid (Y ≠ []) ∧ Hid (By Y) ∧ Hid (rstrip Y = rstrip X)) (fun v _ => (match v with | .string t => t.size | _ => 0))
      case atStart => exact ⟨X, by rw [SB.out], rfl, by rw [HL.out]; omega, XN, HB, kd rfl⟩
      case round =>
        obtain ⟨Y, rfl, rfl, hY, YN, YB, YR⟩ := hrel
        have YZ := num_size Y
        have YL := byteL_str YB.out
        have y1 : 1 ≤ Y.length := by
          have := YN.out
          cases Y with
          | nil => exact absurd rfl this
          | cons a r => simp
        have i0 := fun w => idx_str (strOfNums Y) (i := 0) (by omega) (z := 0) rfl w
        rw [YL] at i0
        have GO3 := kd (GO2.out Y AX.out)
        have LW := kd (fun w => reflower_any (strOfNums Y) w (by omega))
        rw [YL] at LW
        have SG := kd (strip_go (Y := Y))
        have SS := kd (strip_stop (Y := Y) YN.out)
        have EX : (strOfNums Y).extract 1 Y.length = strOfNums (Y.drop 1) := by rw [str_sub, YL, sub_tail Y _ rfl]
        generalize Y.getD 0 0 = c at *
        by_cases hc : 1 < Y.length ∧ c = 48
        · obtain ⟨g1, g2⟩ := SG.out hc.1 hc.2
          obtain ⟨hc1, hc2⟩ := hc
          have q1 : decide ((1 : Int) < ((strOfNums Y).size : Int)) = true := by simp; omega
          have q2 : (c == 48) = true := by simp [hc2]
          have i9 : (1 : Int) ≤ ((strOfNums Y).size : Int) := by omega
          have G1 := kd (g1.symm.trans YR.out)
          have G2 := kd g2
          have G3 := kd (show By (Y.drop 1) from YB.out.sub (List.drop_sublist _ _))
          have G4 : (Y.drop 1).length ≤ 4 := by rw [List.length_drop]; omega
          have G5 := kd (show (strOfNums (Y.drop 1)).size < (strOfNums Y).size by rw [num_size, num_size, List.length_drop]; omega)
          have EXH := kd EX
          clear SG SS GO3 LW g1 g2 hc2 YR EX YL
          go_wp2_with fail
          rw [EXH.out]
          go_roundw
          case rel => exact ⟨Y.drop 1, rfl, by first | rfl | trivial, G4, G2, G3, G1⟩
          case measure => exact G5.out
        · have E := kd (GO3.out (by rw [← SS.out hc, YR.out]; exact SE.out XN.out))
          have hor : Y.length = 1 ∨ (1 < Y.length ∧ (c == 48) = false) := by
            by_cases h4 : Y.length = 1
            · exact .inl h4
            · exact .inr ⟨by omega, by simp; exact fun h => hc ⟨by omega, h⟩⟩
          clear SG SS GO3 EX hc YL
          rcases hor with h3 | ⟨h3, e0⟩
          case' inl => have q1 : decide ((1 : Int) < ((strOfNums Y).size : Int)) = false := by simp; omega
          case' inr => have q1 : decide ((1 : Int) < ((strOfNums Y).size : Int)) = true := by simp; omega
          all_goals
            go_wp2_with (go_at_call 65; refine (LW.out _).mono ?_; rintro e w' ⟨rfl, hb⟩; have B1 := kd hb; clear hb)
            go_ret2
            exact ⟨ret_un E.out, B1.out⟩
end Go.Proofs.YthfonniieaiocaaGreatDoor
namespace Go.Proofs.YthfonniieaiocaaGreatDoor
open Go.RowKit

theorem le_sum : ∀ {l : List Nat} {x : Nat}, x ∈ l → x ≤ l.sum
  | a :: l, x, h => by
    rw [List.sum_cons]
    rcases List.mem_cons.1 h with rfl | h
    · omega
    · have := le_sum h; omega
theorem cut_le {c : Int} {X p : List Int} (h : p ∈ cutL c X) : p.length ≤ X.length := by
  have h1 := cut_sum c X
  have h2 := le_sum (List.mem_map.2 ⟨p, h, rfl⟩ : p.length + 1 ∈ (cutL c X).map (fun p => p.length + 1))
  omega
theorem colon_str2 : (⟨#[58]⟩ : ByteArray) = strOfNums [58] := rfl
def sideV (X : List Int) : Value := match sideL X with
  | some l => .tuple #[.string (strOfNums (joinL [58] l)), .int .i64 (l.length : Nat), .bool true]
  | none => .tuple #[.string ⟨#[]⟩, .int .i64 0, .bool false]
theorem sideV_bad {X : List Int} {j : Nat} {p : List Int} (hX : X ≠ []) (h : (cutL 58 X)[j]? = some p) (hp : grpOK p = false) : Value.tuple #[.string ⟨#[]⟩, .int .i64 0, .bool false] = sideV X := by
  unfold sideV sideL grpL
  rw [if_neg hX, if_neg]
  intro h2
  rw [List.all_eq_true.1 h2 p (List.mem_of_getElem? h)] at hp
  cases hp
theorem sideV_ok {X : List Int} (hX : X ≠ []) (h : ∀ p ∈ cutL 58 X, grpOK p = true) : Value.tuple #[.string (strOfNums (joinL [58] ((cutL 58 X).map grpN))), .int .i64 ((cutL 58 X).length : Nat), .bool true] = sideV X := by
  unfold sideV sideL grpL
  rw [if_neg hX, if_pos (List.all_eq_true.2 h)]
  dsimp only
  rw [List.length_map]
theorem join_grp {P : List (List Int)} {i : Nat} {p : List Int} (h : P[i]? = some p) : joinL [58] ((P.take (i + 1)).map grpN) = (if i = 0 then [] else joinL [58] ((P.take i).map grpN) ++ [58]) ++ grpN p := by
  have hi : i < P.length := (List.getElem?_eq_some_iff.1 h).1
  have e : P.take (i + 1) = P.take i ++ [p] := by
    rw [List.take_add_one, h]; rfl
  rw [e, List.map_append]
  by_cases h0 : i = 0
  · subst h0; rw [if_pos rfl]; exact joinL_one _ _
  · rw [if_neg h0, List.map_singleton, joinL_snoc _ _ _ (by intro e2; have := congrArg List.length e2; rw [List.length_map, List.length_take, List.length_nil] at this; omega), List.append_assoc]
theorem grpN_l4 {g : List Int} (h : grpOK g = true) : (grpN g).length ≤ 4 := by
  have h1 := grpOK_iff.1 h
  have h2 := grpN_le h1.1.1
  omega
theorem grpV_y {X : List Int} (h : grpOK X = true) : grpV X = .tuple #[.string (strOfNums (grpN X)), .bool true] := if_pos h
theorem grpV_n {X : List Int} (h : grpOK X = false) : grpV X = .tuple #[.string ⟨#[]⟩, .bool false] := if_neg (by rw [h]; decide)
set_option maxHeartbeats 2000000 in
theorem rgroups_any (s : ByteArray) (w : World) (hs : s.size ≤ 4000000) : Calls Tryz.prog 129 #[.string s] w fun e w' => e = .returned (sideV (byteL s)) ∧ Below w.heap.size w w' := by
  by_cases h0 : s = ⟨#[]⟩
  · subst h0
    go_enter Tryz.func129, Tryz.ntmps129
    go_wp2_with fail
    go_ret3
    exact ⟨rfl, Below.refl _ _⟩
  have hn : ¬ s.toList = [] := fun e => h0 (toList_nil.1 e)
  have hn2 : s.toList.isEmpty = false := by
    cases h : s.toList with
    | nil => exact absurd h hn
    | cons _ _ => rfl
  have PC := kd (fun w => rpieces_any s 58 w hs)
  have XN := kd (show byteL s ≠ [] from fun e => h0 (byteL_nil.1 e))
  have CB := kd (cutL_by (sep := 58) (byteL_by s))
  have CZ := kd (fun p (h : p ∈ cutL 58 (byteL s)) => show (strOfNums p).size ≤ 4000000 by have h1 := cut_le h; rw [byteL_len] at h1; rw [num_size]; omega)
  have BAD := kd (fun j p h hp => sideV_bad (X := byteL s) (j := j) (p := p) XN.out h hp)
  have OK := kd (fun h => sideV_ok (X := byteL s) XN.out h)
  generalize sideV (byteL s) = V at *
  generalize cutL 58 (byteL s) = P at *
  clear h0 XN
  go_enter Tryz.func129, Tryz.ntmps129
  go_wp2_with fail
  refine (PC.out w).mono ?_
  rintro _ w1 ⟨g, cap, rfl, hb1, hg, hl, hc⟩
  have B1 := kd hb1; have HG := kd hg; have HC := kd hc
  have HLn : P.length ≤ 4000001 := by omega
  clear hb1 hg hc hl PC
  go_wp2_with fail
  go_loopw [6, 7] (fun v6 v7 wr => ∃ (i : Nat) (t : ByteArray), i ≤ P.length ∧ v6 = .string t ∧ v7 = .int .i64 i ∧ t.size ≤ 5 * i ∧ Hid (t = strOfNums (joinL [58] ((P.take i).map grpN))) ∧ Hid (∀ p ∈ P.take i, grpOK p = true) ∧ Hid (Below w1.heap.size w1 wr)) (fun _ v _ => P.length - (intOf v).toNat)
  case atStart => exact ⟨0, _, Nat.zero_le _, rfl, rfl, Nat.le_refl _, kd rfl, kd (fun p hp => by simp at hp), kd (Below.refl _ _)⟩
  case round =>
    obtain ⟨i, t, hi, rfl, rfl, ht, ET, AL, HB⟩ := hrel
    by_cases hlt : i < P.length
    · have hd : decide (i < P.length) = true := by simp [hlt]
      have hd2 : decide ((i : Int) < (P.length : Int)) = true := by simp; omega
      obtain ⟨p, hp⟩ : ∃ p, P[i]? = some p := ⟨_, List.getElem?_eq_getElem hlt⟩
      have k0 : wr.cell? ⟨g, i, none⟩ = some (.string (strOfNums p)) := (HB.out.cell (p := ⟨g, i, none⟩) HG.out).trans (HC.out i p hp)
      have BP := CB.out p (List.mem_of_getElem? hp)
      have JG := kd (join_grp hp)
      have BD := kd (BAD.out i p hp)
      have AN := kd (show grpOK p = true → ∀ q ∈ P.take (i + 1), grpOK q = true from fun h q hq => by
        rw [List.take_add_one, hp] at hq
        rcases List.mem_append.1 hq with hq | hq
        · exact AL.out q hq
        · have : q = p := by simpa using hq
          subst this; exact h)
      have GL := kd (grpN_l4 (g := p))
      have RG := kd (fun w (h : (strOfNums p).size ≤ 4000000) => rgroup_any (strOfNums p) w h)
      rw [byteL_str BP] at RG
      have PL := kd (show grpOK p = true ∨ grpOK p = false by cases grpOK p <;> simp)
      have GY := kd (grpV_y (X := p)); have GN := kd (grpV_n (X := p))
      generalize grpV p = GV at *
      generalize grpN p = gn at *
      have SZ : (strOfNums p).size ≤ 4000000 := CZ.out p (List.mem_of_getElem? hp)
      rcases PL.out with hok | hok
      · have GV2 := GY.out hok
        subst GV2
        have N1 := kd (AN.out hok)
        have gl := GL.out hok
        have GS := num_size gn
        clear BD AN GL GN GY PL BP hok AL hp
        by_cases hi0 : i = 0
        · have T0 := kd (show t = ⟨#[]⟩ by rw [ET.out, hi0]; rfl)
          have p0 : ¬ (0 : Int) < (i : Int) := by omega
          have A1 : ∀ w, (Op.stringOp .add t (strOfNums gn)).run Tryz.prog w = .ok (.string (t ++ strOfNums gn)) w := fun w => by rw [run_string_add_sum (P := Tryz.prog) w _ _ (by omega)]
          have T1 := kd (show t ++ strOfNums gn = strOfNums (joinL [58] ((P.take (i + 1)).map grpN)) by rw [JG.out, if_pos hi0, T0.out]; rfl)
          have S1 : (t ++ strOfNums gn).size ≤ 5 * (i + 1) := by rw [ByteArray.size_append]; omega
          clear JG ET hi0
          go_wp2_with fail
          refine (RG.out _ SZ).mono ?_
          rintro _ w5 ⟨rfl, hb5⟩
          have B5 := kd (bthen HB.out hb5)
          clear hb5 k0
          go_wp2_with fail
          go_roundw
          case rel => exact ⟨i + 1, _, by omega, rfl, by go_num, S1, T1, N1, B5⟩
          case measure => simp [intOf]; omega
        · have p0 : (0 : Int) < (i : Int) := by omega
          have C1 : (⟨#[58]⟩ : ByteArray).size = 1 := rfl
          have A0 : ∀ w, (Op.stringOp .add t (⟨#[58]⟩ : ByteArray)).run Tryz.prog w = .ok (.string (t ++ (⟨#[58]⟩ : ByteArray))) w := fun w => by rw [run_string_add_sum (P := Tryz.prog) w _ _ (by omega)]
          have A1 : ∀ w, (Op.stringOp .add (t ++ (⟨#[58]⟩ : ByteArray)) (strOfNums gn)).run Tryz.prog w = .ok (.string ((t ++ (⟨#[58]⟩ : ByteArray)) ++ strOfNums gn)) w := fun w => by rw [run_string_add_sum (P := Tryz.prog) w _ _ (by rw [ByteArray.size_append]; omega)]
          have T1 := kd (show (t ++ (⟨#[58]⟩ : ByteArray)) ++ strOfNums gn = strOfNums (joinL [58] ((P.take (i + 1)).map grpN)) by rw [JG.out, if_neg hi0, ET.out, colon_str2, str_app, str_app])
          have S1 : ((t ++ (⟨#[58]⟩ : ByteArray)) ++ strOfNums gn).size ≤ 5 * (i + 1) := by rw [ByteArray.size_append, ByteArray.size_append]; omega
          clear JG ET
          go_wp2_with fail
          refine (RG.out _ SZ).mono ?_
          rintro _ w5 ⟨rfl, hb5⟩
          have B5 := kd (bthen HB.out hb5)
          clear hb5 k0
          go_wp2_with fail
          go_roundw
          case rel => exact ⟨i + 1, _, by omega, rfl, by go_num, S1, T1, N1, B5⟩
          case measure => simp [intOf]; omega
      · have GV2 := GN.out hok
        subst GV2
        have E := kd (BD.out hok)
        clear BD AN GL GN GY PL BP hok AL hp JG
        go_wp2_with fail
        refine (RG.out _ SZ).mono ?_
        rintro _ w5 ⟨rfl, hb5⟩
        have B5 := kd (bthen B1.out (bthen HB.out hb5))
        clear hb5 k0
        go_wp2_with fail
        go_ret3
        exact ⟨ret_un E.out, B5.out⟩
    · obtain rfl : i = P.length := by omega
      have hd2 : decide ((P.length : Int) < (P.length : Int)) = false := by simp
      have TK : P.take P.length = P := List.take_length
      have E := kd (OK.out (by have := AL.out; rw [TK] at this; exact this))
      have E2 := kd (show Value.tuple #[.string t, .int .i64 (P.length : Nat), .bool true] = V by rw [ET.out, TK]; exact E.out)
      clear TK AL ET E
      go_wp2_with fail
      go_ret3
      exact ⟨ret_un E2.out, bthen B1.out HB.out⟩
end Go.Proofs.YthfonniieaiocaaGreatDoor
