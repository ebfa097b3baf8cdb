/- Contracts: the reference's hex, escape, Escape, Unescape. Contracts: the reference's pieces, label, number, group. -/
import Derived.Test.YthfonniieaiocaaGreatDoorWf
import Derived.Test.YthfonniieaiocaaGreatDoorVa
set_option linter.unusedVariables false
set_option linter.unusedSimpArgs false
set_option maxRecDepth 100000
namespace Go.Proofs.YthfonniieaiocaaGreatDoor
open Go.RowKit

theorem ret_i {k : IntKind} {a b : Int} (h : a = b) : Ending.returned (.int k a) = .returned (.int k b) := by rw [h]
theorem rhex_any (c : Int) (w : World) (h0 : 0 ≤ c) (h1 : c < 256) : Calls Tryz.prog 123 #[.int .u8 c] w fun e w' => e = .returned (.int .i64 (hexV c)) ∧ w = w' := by
  have DG := kd (fun w => rdigit_any c w)
  cases hd : isDig c with
  | true =>
    have E := kd (hexV_dig hd)
    have R := kd hd
    unfold isDig at hd
    simp at hd
    rw [R.out] at DG
    go_enter Tryz.func123, Tryz.ntmps123
    go_wp2_with (go_at_call 95; refine (DG.out _).mono ?_; rintro e w' ⟨rfl, rfl⟩)
    go_ret
    exact ⟨ret_i (by rw [E.out]), rfl⟩
  | false =>
    by_cases ha : 97 ≤ c ∧ c ≤ 102
    · have E := kd (hexV_low ha.1 ha.2)
      obtain ⟨a1, a2⟩ := ha
      have d1 : decide (97 ≤ c) = true := by simp [a1]
      have d2 : decide (c ≤ 102) = true := by simp [a2]
      have d3 : decide (65 ≤ c) = true := by simp; omega
      have d4 : decide (c ≤ 70) = false := by simp; omega
      rw [hd] at DG
      go_enter Tryz.func123, Tryz.ntmps123
      go_wp2_with (go_at_call 95; refine (DG.out _).mono ?_; rintro e w' ⟨rfl, rfl⟩)
      go_ret
      exact ⟨ret_i (by rw [E.out]; omega), rfl⟩
    · by_cases hb : 65 ≤ c ∧ c ≤ 70
      · have E := kd (hexV_up hb.1 hb.2)
        obtain ⟨a1, a2⟩ := hb
        have d1 : decide (65 ≤ c) = true := by simp [a1]
        have d2 : decide (c ≤ 70) = true := by simp [a2]
        rw [hd] at DG
        go_enter Tryz.func123, Tryz.ntmps123
        go_wp2_with (go_at_call 95; refine (DG.out _).mono ?_; rintro e w' ⟨rfl, rfl⟩)
        go_ret
        exact ⟨ret_i (by rw [E.out]; omega), rfl⟩
      · have E := kd (hexV_no hd ha hb)
        rw [hd] at DG
        cases d0 : decide (97 ≤ c) <;> cases d1 : decide (c ≤ 102) <;> cases d2 : decide (65 ≤ c) <;> cases d3 : decide (c ≤ 70)
        all_goals first
          | (exfalso; simp at d0 d1 d2 d3; omega)
          | (go_enter Tryz.func123, Tryz.ntmps123
             go_wp2_with (go_at_call 95; refine (DG.out _).mono ?_; rintro e w' ⟨rfl, rfl⟩)
             go_ret
             exact ⟨ret_i (by rw [E.out]), rfl⟩)
end Go.Proofs.YthfonniieaiocaaGreatDoor
namespace Go.Proofs.YthfonniieaiocaaGreatDoor
open Go.RowKit

theorem sub_sn {xs : List Int} {b i : Nat} (hb : b ≤ i) (hi : i < xs.length) : subL xs b (i + 1) = subL xs b i ++ [xs.getD i 0] := by
  unfold subL
  rw [show i + 1 - b = (i - b) + 1 by omega, take_snocI _ (by rw [List.length_drop]; omega), List.getD_eq_getElem?_getD, List.getD_eq_getElem?_getD, List.getElem?_drop, show b + (i - b) = i by omega]
theorem sub_nil (xs : List Int) (i : Nat) : subL xs i i = [] := by unfold subL; rw [Nat.sub_self, List.take_zero]
theorem drop_sub {xs : List Int} {b i : Nat} (hb : b ≤ i) : xs.drop b = subL xs b i ++ xs.drop i := by
  unfold subL
  conv => lhs; rw [← List.take_append_drop (i - b) (xs.drop b), List.drop_drop, show b + (i - b) = i by omega]
theorem drop_getD {xs : List Int} {i : Nat} (hi : i < xs.length) : xs.drop i = xs.getD i 0 :: xs.drop (i + 1) := by
  rw [List.drop_eq_getElem_cons hi, List.getD_eq_getElem?_getD, List.getElem?_eq_getElem hi]; rfl
theorem str_sub (s : ByteArray) (a b : Nat) : s.extract a b = strOfNums (subL (byteL s) a b) := by rw [show subL (byteL s) a b = byteL (s.extract a b) from (byteL_extract s a b).symm, str_byteL]
def PCR (w : World) (X : List Int) (c : Int) (n : Nat) (v5 v6 v7 : Value) (wr : World) : Prop := ∃ (i b : Nat) (x : Value) (ps : List (List Int)), i ≤ n ∧ b ≤ i ∧ ps.length ≤ i ∧ x = v5 ∧ v6 = .int .i64 b ∧ v7 = .int .i64 i ∧ Hid (cutL c X = ps ++ cutL c (X.drop b)) ∧ Hid (c ∉ subL X b i) ∧ Hid (TX w x (ps.map strOfNums) wr)
theorem pc_hit {X : List Int} {c : Int} {b i : Nat} {ps : List (List Int)} (h : cutL c X = ps ++ cutL c (X.drop b)) (hn : c ∉ subL X b i) (hb : b ≤ i) (hi : i < X.length) (hc : X.getD i 0 = c) : cutL c X = (ps ++ [subL X b i]) ++ cutL c (X.drop (i + 1)) := by
  rw [h, drop_sub hb, drop_getD hi, hc, cut_app c _ hn]; simp
theorem pc_end {X : List Int} {c : Int} {b : Nat} {ps : List (List Int)} (h : cutL c X = ps ++ cutL c (X.drop b)) (hn : c ∉ subL X b X.length) (hb : b ≤ X.length) : cutL c X = ps ++ [subL X b X.length] := by
  have e : X.drop b = subL X b X.length := by rw [drop_sub hb, List.drop_length, List.append_nil]
  rw [h, e, cut_no c hn]
set_option maxHeartbeats 2000000 in
theorem rpieces_any (s : ByteArray) (c : Int) (w : World) (hs : s.size ≤ 4000000) : Calls Tryz.prog 62 #[.string s, .int .u8 c] w fun e w' => ∃ g cap, e = .returned (.slice (some ⟨g, 0, none⟩) (cutL c (byteL s)).length cap) ∧ Below w.heap.size w w' ∧ g < w'.heap.size ∧ (cutL c (byteL s)).length ≤ s.size + 1 ∧ ∀ j p, (cutL c (byteL s))[j]? = some p → w'.cell? ⟨g, j, none⟩ = some (.string (strOfNums p)) := by
  have HL := kd (byteL_len s)
  have SU := kd (fun a b => str_sub s a b)
  obtain ⟨X, hX⟩ : ∃ X, byteL s = X := ⟨_, rfl⟩
  have HX := kd hX
  rw [hX] at HL SU ⊢
  clear hX
  go_enter Tryz.func62, Tryz.ntmps62
  go_wp2_with fail
  go_loopw [5, 6, 7] (fun v5 v6 v7 wr => PCR w X c s.size v5 v6 v7 wr) (fun _ _ v _ => s.size - (intOf v).toNat)
  case atStart => exact ⟨0, 0, _, [], Nat.zero_le _, Nat.le_refl _, Nat.le_refl _, rfl, rfl, rfl, kd rfl, kd (by rw [sub_nil]; simp), kd (VX.nil _ _ _)⟩
  case round =>
    obtain ⟨i, b, x, ps, hi, hbi, hps, rfl, rfl, rfl, EP, NB, HT⟩ := hrel
    by_cases hlt : i < s.size
    · have hd : decide ((i : Int) < (s.size : Int)) = true := by simp; omega
      have d1 := fun w => idx_str s (i := i) hlt (z := (i : Int)) rfl w
      rw [HX.out] at d1
      have HH := kd (fun hc => pc_hit EP.out NB.out hbi (by rw [HL.out]; exact hlt) hc)
      have NN := kd (show X.getD i 0 ≠ c → c ∉ subL X b (i + 1) from fun h hm => by
        rw [sub_sn hbi (by rw [HL.out]; exact hlt)] at hm
        rcases List.mem_append.1 hm with hm | hm
        · exact NB.out hm
        · rw [List.mem_singleton] at hm; exact h hm.symm)
      generalize X.getD i 0 = y at *
      by_cases hy : y = c
      · have q0 : (y == c) = true := by simp [hy]
        have E := kd (HH.out hy)
        have HT2 := kd (show TX w x (ps.map strOfNums) wr from HT.out)
        have ZL : (ps.map strOfNums).length = ps.length := List.length_map _
        have i1 : (b : Int) ≤ (i : Int) := by omega
        have i2 : (i : Int) ≤ (s.size : Int) := by omega
        clear HH NN EP NB HT hy
        go_wp2_with (with_reducible refine wpList_pushS rfl (.tmp 19) (.tmp 24) rfl x (ps.map strOfNums) rfl HT2.out (s.extract b i) rfl (by omega) ?_)
        intro v3 w3 L3 E3 l3 M3
        go_wp2_with fail
        go_roundw
        case rel => exact ⟨i + 1, i + 1, v3, ps ++ [subL X b i], by omega, Nat.le_refl _, by rw [List.length_append, List.length_singleton]; omega, rfl, by go_num, by go_num, E, kd (by rw [sub_nil]; simp), kd (by
          have h := M3.out
          rw [E3.out, SU.out] at h
          rw [List.map_append]; exact h)⟩
        case measure => simp [intOf]; omega
      · have q0 : (y == c) = false := by simp [hy]
        have N2 := kd (NN.out hy)
        clear HH NN hy
        go_wp2_with fail
        go_roundw
        case rel => exact ⟨i + 1, b, x, ps, by omega, by omega, by omega, rfl, rfl, by go_num, EP, N2, HT⟩
        case measure => simp [intOf]; omega
    · obtain rfl : i = s.size := by omega
      have hd : decide ((s.size : Int) < (s.size : Int)) = false := by simp
      have E := kd (pc_end EP.out (by rw [HL.out]; exact NB.out) (by rw [HL.out]; exact hbi))
      rw [HL.out] at E
      have HT2 := kd (show TX w x (ps.map strOfNums) wr from HT.out)
      have ZL : (ps.map strOfNums).length = ps.length := List.length_map _
      have i1 : (b : Int) ≤ (s.size : Int) := by omega
      clear EP NB HT hd
      go_wp2_with (with_reducible refine wpList_pushS rfl (.tmp 28) (.tmp 32) rfl x (ps.map strOfNums) rfl HT2.out (s.extract b s.size) rfl (by omega) ?_)
      intro v3 w3 L3 E3 l3 M3
      have M4 := kd (show TX w v3 ((ps ++ [subL X b s.size]).map strOfNums) w3 by
        have h := M3.out
        rw [E3.out, SU.out] at h
        rw [List.map_append]; exact h)
      clear M3 E3
      go_wp2_with fail
      go_ret
      rcases VX.form M4.out with ⟨h1, h2, _⟩ | ⟨g, cap, h1, h2, h3, h4, h5⟩
      · simp at h2
      · refine ⟨g, cap, ?_, M4.out.bw, h4, ?_, fun j p hp => h5 j _ ?_⟩
        · rw [E.out, h1, List.length_map]; rfl
        · rw [E.out, List.length_append, List.length_singleton]; omega
        · rw [E.out] at hp
          rw [List.getElem?_map, List.getElem?_map, hp]; rfl
def labV (X : List Int) : Value := .tuple #[.bool (labOK X), .bool (labOK X && wordL X)]
theorem labV_bad {X : List Int} (h : labOK X = false) : Value.tuple #[.bool false, .bool false] = labV X := by unfold labV; rw [h]; rfl
theorem labV_ok {X : List Int} {b : Bool} (h : labOK X = true) (hb : wordL X = b) : Value.tuple #[.bool true, .bool b] = labV X := by unfold labV; rw [h, hb]; rfl
theorem labOK_iff {X : List Int} : labOK X = true ↔ (1 ≤ X.length ∧ X.length ≤ 63) ∧ (X.getD 0 0 ≠ 45 ∧ X.getD (X.length - 1) 0 ≠ 45) ∧ ∀ c ∈ X, labC c = true := by
  unfold labOK
  simp only [Bool.and_eq_true, decide_eq_true_eq, bne_iff_ne, List.all_eq_true]
theorem labOK_no {X : List Int} (h : ¬ ((1 ≤ X.length ∧ X.length ≤ 63) ∧ (X.getD 0 0 ≠ 45 ∧ X.getD (X.length - 1) 0 ≠ 45) ∧ ∀ c ∈ X, labC c = true)) : labOK X = false := by
  rw [Bool.eq_false_iff, ne_eq, labOK_iff]; exact h
set_option maxHeartbeats 2000000 in
theorem rlabel_any (s : ByteArray) (w : World) (hs : s.size ≤ 4000000) : Calls Tryz.prog 63 #[.string s] w fun e w' => e = .returned (labV (byteL s)) ∧ w = w' := by
  have HL := kd (byteL_len s)
  have LB := kd (fun h => labV_bad (X := byteL s) h)
  have LO := kd (fun b h hb => labV_ok (X := byteL s) (b := b) h hb)
  have LI := kd (labOK_iff (X := byteL s))
  have LN := kd (labOK_no (X := byteL s))
  have LW := kd (show wordL (byteL s) = (byteL s).any fun c => !isDig c from rfl)
  rw [byteL_len] at LI LN
  generalize labV (byteL s) = V at *
  generalize labOK (byteL s) = OKK at *
  generalize wordL (byteL s) = WW at *
  obtain ⟨X, hX⟩ : ∃ X, byteL s = X := ⟨_, rfl⟩
  have HX := kd hX
  rw [hX] at HL LI LN LW
  clear hX
  go_enter Tryz.func63, Tryz.ntmps63
  by_cases h1 : 1 ≤ s.size ∧ s.size ≤ 63
  case neg =>
    have E := kd (LB.out (LN.out fun h => h1 h.1))
    rcases (show s.size < 1 ∨ (1 ≤ s.size ∧ 63 < s.size) by omega) with h2 | ⟨h2, h3⟩
    · have q0 : decide ((s.size : Int) < 1) = true := by simp; omega
      clear h1
      go_wp2_with fail
      go_ret2
      exact ⟨ret_un E.out, rfl⟩
    · have q0 : decide ((s.size : Int) < 1) = false := by simp; omega
      have q1 : decide ((63 : Int) < (s.size : Int)) = true := by simp; omega
      clear h1
      go_wp2_with fail
      go_ret2
      exact ⟨ret_un E.out, rfl⟩
  obtain ⟨h1, h2⟩ := h1
  have q0 : decide ((s.size : Int) < 1) = false := by simp; omega
  have q1 : decide ((63 : Int) < (s.size : Int)) = false := by simp; omega
  have j0 := fun w => idx_str s (i := 0) (by omega) (z := 0) rfl w
  have j1 := fun w => idx_str s (i := s.size - 1) (by omega) (z := (s.size : Int) - 1) (by omega) w
  rw [HX.out] at j0 j1
  obtain ⟨c0, hc0⟩ : ∃ c, X.getD 0 0 = c := ⟨_, rfl⟩
  obtain ⟨c1, hc1⟩ : ∃ c, X.getD (s.size - 1) 0 = c := ⟨_, rfl⟩
  rw [hc0] at j0 LI LN
  rw [hc1] at j1 LI LN
  clear hc0 hc1
  by_cases h3 : c0 = 45
  · have E := kd (LB.out (LN.out fun h => h.2.1.1 h3))
    have e0 : (c0 == 45) = true := by simp [h3]
    clear LI LN LW
    go_wp2_with fail
    go_ret2
    exact ⟨ret_un E.out, rfl⟩
  have e0 : (c0 == 45) = false := by simp [h3]
  by_cases h4 : c1 = 45
  · have E := kd (LB.out (LN.out fun h => h.2.1.2 h4))
    have e1 : (c1 == 45) = true := by simp [h4]
    clear LI LN LW
    go_wp2_with fail
    go_ret2
    exact ⟨ret_un E.out, rfl⟩
  have e1 : (c1 == 45) = false := by simp [h4]
  have LI2 := kd (show (∀ c ∈ X, labC c = true) → OKK = true from fun h => LI.out.2 ⟨⟨h1, h2⟩, ⟨h3, h4⟩, h⟩)
  have LN2 := kd (show ¬ (∀ c ∈ X, labC c = true) → OKK = false from fun h => LN.out fun h9 => h h9.2.2)
  clear LI LN h1 h2 h3 h4
  go_wp2_with fail
  go_loopw [4, 5] (fun v4 v5 wr => ∃ (i : Nat) (b : Bool), i ≤ s.size ∧ v4 = .bool b ∧ v5 = .int .i64 i ∧ w = wr ∧ Hid (b = (X.take i).any fun c => !isDig c) ∧ Hid (∀ c ∈ X.take i, labC c = true)) (fun _ v _ => s.size - (intOf v).toNat)
  case atStart => exact ⟨0, false, Nat.zero_le _, rfl, rfl, rfl, kd rfl, kd (fun c hc => by simp at hc)⟩
  case round =>
    clear q0 q1 j0 j1 e0 e1
    obtain ⟨i, b, hi, rfl, rfl, rfl, EB, AL⟩ := hrel
    by_cases hlt : i < s.size
    · have hd : decide ((i : Int) < (s.size : Int)) = true := by simp; omega
      have d1 := fun w => idx_str s (i := i) hlt (z := (i : Int)) rfl w
      rw [HX.out] at d1
      have hlt' : i < X.length := by rw [HL.out]; exact hlt
      have TS := kd (take_snocI X hlt')
      have BD := kd (show labC (X.getD i 0) = false → OKK = false from fun h => LN2.out fun h9 => by rw [h9 _ (getD_mem hlt')] at h; cases h)
      have LC := kd (show labC (X.getD i 0) = (isLet (X.getD i 0) || (isDig (X.getD i 0) || X.getD i 0 == 45)) from rfl)
      clear hlt'
      generalize X.getD i 0 = c at *
      have LT := kd (rletter_any c w); have DG := kd (rdigit_any c w)
      have NXT := kd (show labC c = true → ∀ d ∈ X.take (i + 1), labC d = true from fun h d hd => by
        rw [TS.out] at hd
        rcases List.mem_append.1 hd with hd | hd
        · exact AL.out d hd
        · rw [List.mem_singleton] at hd; subst hd; exact h)
      have NB := kd (show (X.take (i + 1)).any (fun c => !isDig c) = (b || !isDig c) by rw [TS.out, List.any_append, ← EB.out]; simp)
      generalize labC c = lc at *
      generalize isLet c = b1 at *
      generalize isDig c = b2 at *
      cases hc : (c == 45) with
      | _ =>
        rw [hc] at LC
        first
          | have hc2 : (c != 45) = true := by rw [bne, hc]; rfl
          | have hc2 : (c != 45) = false := by rw [bne, hc]; rfl
        cases b1 <;> cases b2 <;> cases b
        all_goals
          first
            | (have E := kd (LB.out (BD.out LC.out))
               clear BD LC NXT NB LO
               go_wp2_with (first | (go_at_call 94; refine LT.out.mono ?_; rintro e w' ⟨rfl, rfl⟩) | (go_at_call 95; refine DG.out.mono ?_; rintro e w' ⟨rfl, rfl⟩))
               go_ret2
               exact ⟨ret_un E.out, rfl⟩)
            | (have N1 := kd (NXT.out LC.out)
               have N2 := kd NB.out.symm
               clear BD LC NXT NB LB EB AL
               go_wp2_with (first | (go_at_call 94; refine LT.out.mono ?_; rintro e w' ⟨rfl, rfl⟩) | (go_at_call 95; refine DG.out.mono ?_; rintro e w' ⟨rfl, rfl⟩))
               go_roundw
               case rel => exact ⟨i + 1, _, by omega, rfl, by go_num, by first | rfl | trivial, N2, N1⟩
               case measure => simp [intOf]; omega)
    · obtain rfl : i = s.size := by omega
      have hd : decide ((s.size : Int) < (s.size : Int)) = false := by simp
      have TK : X.take s.size = X := List.take_of_length_le (by rw [HL.out]; exact Nat.le_refl _)
      have E := kd (LO.out b (LI2.out (by rw [← TK]; exact AL.out)) (by rw [LW.out, EB.out, TK]))
      clear TK
      go_wp2_with fail
      go_ret2
      exact ⟨ret_un E.out, rfl⟩
end Go.Proofs.YthfonniieaiocaaGreatDoor
