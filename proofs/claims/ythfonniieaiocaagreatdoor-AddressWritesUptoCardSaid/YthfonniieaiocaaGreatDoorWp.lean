/- Contracts: the reference's hex, escape, Escape, Unescape. And what stands behind it. -/
import Derived.Test.YthfonniieaiocaaGreatDoorWf
import Derived.Test.YthfonniieaiocaaGreatDoorVa
import Derived.Test.YthfonniieaiocaaGreatDoorUt
set_option linter.unusedVariables false
set_option linter.unusedSimpArgs false
set_option maxRecDepth 100000
set_option maxHeartbeats 4000000
namespace Go.Proofs.YthfonniieaiocaaGreatDoor
open Go.RowKit

theorem wrap_u8 {x : Int} (h0 : 0 ≤ x) (h1 : x < 256) : IntKind.u8.wrap x = x := by
  unfold IntKind.wrap; simp [IntKind.signed, IntKind.bits]; omega
theorem ret_i {k : IntKind} {a b : Int} (h : a = b) : Ending.returned (.int k a) = .returned (.int k b) := by rw [h]
theorem rhex_any (c : Int) (w : World) (h0 : 0 ≤ c) (h1 : c < 256) : Calls Tryz.prog 123 #[.int .u8 c] w fun e w' => e = .returned (.int .i64 (hexV c)) ∧ w = w' := by
  have DG := kd (fun w => rdigit_any c w)
  cases hd : isDig c with
  | true =>
    have E := kd (hexV_dig hd)
    have R := kd hd
    unfold isDig at hd
    simp at hd
    rw [R.out] at DG
    go_enter Tryz.func123, Tryz.ntmps123
    go_wp2_with (go_at_call 95; refine (DG.out _).mono ?_; rintro e w' ⟨rfl, rfl⟩)
    go_ret
    exact ⟨ret_i (by rw [E.out]), rfl⟩
  | false =>
    by_cases ha : 97 ≤ c ∧ c ≤ 102
    · have E := kd (hexV_low ha.1 ha.2)
      obtain ⟨a1, a2⟩ := ha
      have d1 : decide (97 ≤ c) = true := by simp [a1]
      have d2 : decide (c ≤ 102) = true := by simp [a2]
      have d3 : decide (65 ≤ c) = true := by simp; omega
      have d4 : decide (c ≤ 70) = false := by simp; omega
      rw [hd] at DG
      go_enter Tryz.func123, Tryz.ntmps123
      go_wp2_with (go_at_call 95; refine (DG.out _).mono ?_; rintro e w' ⟨rfl, rfl⟩)
      go_ret
      exact ⟨ret_i (by rw [E.out]; omega), rfl⟩
    · by_cases hb : 65 ≤ c ∧ c ≤ 70
      · have E := kd (hexV_up hb.1 hb.2)
        obtain ⟨a1, a2⟩ := hb
        have d1 : decide (65 ≤ c) = true := by simp [a1]
        have d2 : decide (c ≤ 70) = true := by simp [a2]
        rw [hd] at DG
        go_enter Tryz.func123, Tryz.ntmps123
        go_wp2_with (go_at_call 95; refine (DG.out _).mono ?_; rintro e w' ⟨rfl, rfl⟩)
        go_ret
        exact ⟨ret_i (by rw [E.out]; omega), rfl⟩
      · have E := kd (hexV_no hd ha hb)
        rw [hd] at DG
        cases d0 : decide (97 ≤ c) <;> cases d1 : decide (c ≤ 102) <;> cases d2 : decide (65 ≤ c) <;> cases d3 : decide (c ≤ 70)
        all_goals first
          | (exfalso; simp at d0 d1 d2 d3; omega)
          | (go_enter Tryz.func123, Tryz.ntmps123
             go_wp2_with (go_at_call 95; refine (DG.out _).mono ?_; rintro e w' ⟨rfl, rfl⟩)
             go_ret
             exact ⟨ret_i (by rw [E.out]), rfl⟩)
def RSR (w : World) (X : List Int) (k : Int) (n : Nat) (v v6 : Value) (wr : World) : Prop := ∃ (i : Nat) (x : Value) (L : List Int), i ≤ n ∧ x = v ∧ v6 = .int .i64 i ∧ L.length ≤ 3 * i ∧ Hid (L = escT k (X.take i)) ∧ Hid (OX w x L wr)
theorem rescape_any (s : ByteArray) (k : Int) (w : World) (hs : s.size ≤ 4000000) : Calls Tryz.prog 17 #[.string s, .int .i64 k] w fun e w' => e = .returned (.string (strOfNums (escT k (byteL s)))) ∧ Below w.heap.size w w' := by
  have HB := kd (byteL_by s)
  have HL := kd (byteL_len s)
  obtain ⟨X, hX⟩ : ∃ X, byteL s = X := ⟨_, rfl⟩
  have HX := kd hX
  rw [hX] at HL HB ⊢
  clear hX
  go_enter Tryz.func17, Tryz.ntmps17
  go_wp2_with fail
  go_loopw [5, 6] (fun v v6 wr => RSR w X k s.size v v6 wr) (fun _ v _ => s.size - (intOf v).toNat)
  case atStart => exact ⟨0, _, [], Nat.zero_le _, rfl, rfl, Nat.le_refl _, kd rfl, kd (OX.nil w)⟩
  case round =>
    obtain ⟨i, x, L, hi, rfl, rfl, hL, EL, H⟩ := hrel
    by_cases hlt : i < s.size
    · have hd : decide ((i : Int) < (s.size : Int)) = true := by simp; omega
      have d1 := fun w => idx_str s (i := i) hlt (z := (i : Int)) rfl w
      have hx2 := HB.out _ (getD_mem (l := X) (i := i) (by rw [HL.out]; exact hlt))
      rw [HX.out] at d1
      have TS := kd (show escT k (X.take (i + 1)) = escT k (X.take i) ++ escC2 k (X.getD i 0) by rw [take_snocI X (by rw [HL.out]; exact hlt), escT_snoc])
      generalize X.getD i 0 = c at *
      have IC := kd (rin_any c k wr)
      cases hp : inC k c with
      | true =>
        have EC := kd (show escC2 k c = [c] by unfold escC2; rw [hp]; rfl)
        rw [hp] at IC
        clear hp
        go_wp2_with (first | (go_at_call 30; refine IC.out.mono ?_; rintro e w1 ⟨rfl, rfl⟩) | (with_reducible refine wpList_push1 rfl (.tmp 18) (.tmp 22) rfl x L rfl H.out c rfl (by omega) ?_))
        intro v3 w3 L3 E3 l3 M3
        go_wp2_with fail
        go_roundw
        case rel => exact ⟨i + 1, v3, L3, by omega, rfl, by go_num, by omega, kd (by rw [E3.out, TS.out, EC.out, EL.out]), M3⟩
        case measure => simp [intOf]; omega
      | false =>
        have EC := kd (show escC2 k c = [37, hexU (c / 16), hexU (c % 16)] by unfold escC2; rw [hp]; rfl)
        rw [hp] at IC
        obtain ⟨x0, x1⟩ := hx2
        have u1 := fun w => up_at (c / 16) (by omega) (by omega) w
        have u2 := fun w => up_at (c % 16) (by omega) (by omega) w
        have td : IntKind.u8.wrap (c.tdiv 16) = c / 16 := by rw [Int.tdiv_eq_ediv_of_nonneg x0]; exact wrap_u8 (by omega) (by omega)
        have tm : IntKind.u8.wrap (c.tmod 16) = c % 16 := by rw [Int.tmod_eq_emod_of_nonneg x0]; exact wrap_u8 (by omega) (by omega)
        have tm2 : c.tmod 16 = c % 16 := Int.tmod_eq_emod_of_nonneg x0
        clear hp
        go_wp2_with (go_at_call 30; refine IC.out.mono ?_; rintro e w1 ⟨rfl, rfl⟩)
        have H2 := kd (H.out.step (((Below.refl wr.heap.size wr).alloc (Nat.le_refl _) (.cells #[.int .u8 37, .int .u8 (hexU (c / 16)), .int .u8 (hexU (c % 16))] 5)).drew))
        have R2 := kd (show Row (wr.alloc (.cells #[.int .u8 37, .int .u8 (hexU (c / 16)), .int .u8 (hexU (c % 16))] 5)).drew wr.heap.size 5 (U8 [37, hexU (c / 16), hexU (c % 16)]) from Row.new wr 5 _)
        go_region_law (refine step_pushB rfl (.tmp 24) (.tmp 35) rfl x L rfl (w := w) H2.out [37, hexU (c / 16), hexU (c % 16)] wr.heap.size 3 rfl (by decide) rfl R2.out (by omega) ?_; intro v3 w3 L3 E3 l3 M3)
        all_goals
          go_wp2_with fail
          go_roundw
          case rel => exact ⟨i + 1, v3, L3, by omega, rfl, by go_num, by omega, kd (by rw [E3.out, TS.out, EC.out, EL.out]), M3⟩
          case measure => simp [intOf]; omega
    · obtain rfl : i = s.size := by omega
      have LE := kd (show L = escT k X by rw [EL.out, List.take_of_length_le (by rw [HL.out]; exact Nat.le_refl _)])
      have cv := conv_owned H.out.o
      go_wp2_with fail
      go_ret
      exact ⟨by rw [LE.out]; rfl, H.out.bw⟩

theorem sub_sn {xs : List Int} {b i : Nat} (hb : b ≤ i) (hi : i < xs.length) : subL xs b (i + 1) = subL xs b i ++ [xs.getD i 0] := by
  unfold subL
  rw [show i + 1 - b = (i - b) + 1 by omega, take_snocI _ (by rw [List.length_drop]; omega), List.getD_eq_getElem?_getD, List.getD_eq_getElem?_getD, List.getElem?_drop, show b + (i - b) = i by omega]
theorem sub_nil (xs : List Int) (i : Nat) : subL xs i i = [] := by unfold subL; rw [Nat.sub_self, List.take_zero]
theorem drop_sub {xs : List Int} {b i : Nat} (hb : b ≤ i) : xs.drop b = subL xs b i ++ xs.drop i := by
  unfold subL
  conv => lhs; rw [← List.take_append_drop (i - b) (xs.drop b), List.drop_drop, show b + (i - b) = i by omega]
theorem drop_getD {xs : List Int} {i : Nat} (hi : i < xs.length) : xs.drop i = xs.getD i 0 :: xs.drop (i + 1) := by
  rw [List.drop_eq_getElem_cons hi, List.getD_eq_getElem?_getD, List.getElem?_eq_getElem hi]; rfl
theorem str_sub (s : ByteArray) (a b : Nat) : s.extract a b = strOfNums (subL (byteL s) a b) := by rw [show subL (byteL s) a b = byteL (s.extract a b) from (byteL_extract s a b).symm, str_byteL]
def PCR (w : World) (X : List Int) (c : Int) (n : Nat) (v5 v6 v7 : Value) (wr : World) : Prop := ∃ (i b : Nat) (x : Value) (ps : List (List Int)), i ≤ n ∧ b ≤ i ∧ ps.length ≤ i ∧ x = v5 ∧ v6 = .int .i64 b ∧ v7 = .int .i64 i ∧ Hid (cutL c X = ps ++ cutL c (X.drop b)) ∧ Hid (c ∉ subL X b i) ∧ Hid (TX w x (ps.map strOfNums) wr)
theorem pc_hit {X : List Int} {c : Int} {b i : Nat} {ps : List (List Int)} (h : cutL c X = ps ++ cutL c (X.drop b)) (hn : c ∉ subL X b i) (hb : b ≤ i) (hi : i < X.length) (hc : X.getD i 0 = c) : cutL c X = (ps ++ [subL X b i]) ++ cutL c (X.drop (i + 1)) := by
  rw [h, drop_sub hb, drop_getD hi, hc, cut_app c _ hn]; simp
theorem pc_end {X : List Int} {c : Int} {b : Nat} {ps : List (List Int)} (h : cutL c X = ps ++ cutL c (X.drop b)) (hn : c ∉ subL X b X.length) (hb : b ≤ X.length) : cutL c X = ps ++ [subL X b X.length] := by
  have e : X.drop b = subL X b X.length := by rw [drop_sub hb, List.drop_length, List.append_nil]
  rw [h, e, cut_no c hn]
theorem rpieces_any (s : ByteArray) (c : Int) (w : World) (hs : s.size ≤ 4000000) : Calls Tryz.prog 62 #[.string s, .int .u8 c] w fun e w' => ∃ g cap, e = .returned (.slice (some ⟨g, 0, none⟩) (cutL c (byteL s)).length cap) ∧ Below w.heap.size w w' ∧ g < w'.heap.size ∧ (cutL c (byteL s)).length ≤ s.size + 1 ∧ ∀ j p, (cutL c (byteL s))[j]? = some p → w'.cell? ⟨g, j, none⟩ = some (.string (strOfNums p)) := by
  have HL := kd (byteL_len s)
  have SU := kd (fun a b => str_sub s a b)
  obtain ⟨X, hX⟩ : ∃ X, byteL s = X := ⟨_, rfl⟩
  have HX := kd hX
  rw [hX] at HL SU ⊢
  clear hX
  go_enter Tryz.func62, Tryz.ntmps62
  go_wp2_with fail
  go_loopw [5, 6, 7] (fun v5 v6 v7 wr => PCR w X c s.size v5 v6 v7 wr) (fun _ _ v _ => s.size - (intOf v).toNat)
  case atStart => exact ⟨0, 0, _, [], Nat.zero_le _, Nat.le_refl _, Nat.le_refl _, rfl, rfl, rfl, kd rfl, kd (by rw [sub_nil]; simp), kd (VX.nil _ _ _)⟩
  case round =>
    obtain ⟨i, b, x, ps, hi, hbi, hps, rfl, rfl, rfl, EP, NB, HT⟩ := hrel
    by_cases hlt : i < s.size
    · have hd : decide ((i : Int) < (s.size : Int)) = true := by simp; omega
      have d1 := fun w => idx_str s (i := i) hlt (z := (i : Int)) rfl w
      rw [HX.out] at d1
      have HH := kd (fun hc => pc_hit EP.out NB.out hbi (by rw [HL.out]; exact hlt) hc)
      have NN := kd (show X.getD i 0 ≠ c → c ∉ subL X b (i + 1) from fun h hm => by
        rw [sub_sn hbi (by rw [HL.out]; exact hlt)] at hm
        rcases List.mem_append.1 hm with hm | hm
        · exact NB.out hm
        · rw [List.mem_singleton] at hm; exact h hm.symm)
      generalize X.getD i 0 = y at *
      by_cases hy : y = c
      · have q0 : (y == c) = true := by simp [hy]
        have E := kd (HH.out hy)
        have HT2 := kd (show TX w x (ps.map strOfNums) wr from HT.out)
        have ZL : (ps.map strOfNums).length = ps.length := List.length_map _
        have i1 : (b : Int) ≤ (i : Int) := by omega
        have i2 : (i : Int) ≤ (s.size : Int) := by omega
        clear HH NN EP NB HT hy
        go_wp2_with (with_reducible refine wpList_pushS rfl (.tmp 19) (.tmp 24) rfl x (ps.map strOfNums) rfl HT2.out (s.extract b i) rfl (by omega) ?_)
        intro v3 w3 L3 E3 l3 M3
        go_wp2_with fail
        go_roundw
        case rel => exact ⟨i + 1, i + 1, v3, ps ++ [subL X b i], by omega, Nat.le_refl _, by rw [List.length_append, List.length_singleton]; omega, rfl, by go_num, by go_num, E, kd (by rw [sub_nil]; simp), kd (by
          have h := M3.out
          rw [E3.out, SU.out] at h
          rw [List.map_append]; exact h)⟩
        case measure => simp [intOf]; omega
      · have q0 : (y == c) = false := by simp [hy]
        have N2 := kd (NN.out hy)
        clear HH NN hy
        go_wp2_with fail
        go_roundw
        case rel => exact ⟨i + 1, b, x, ps, by omega, by omega, by omega, rfl, rfl, by go_num, EP, N2, HT⟩
        case measure => simp [intOf]; omega
    · obtain rfl : i = s.size := by omega
      have hd : decide ((s.size : Int) < (s.size : Int)) = false := by simp
      have E := kd (pc_end EP.out (by rw [HL.out]; exact NB.out) (by rw [HL.out]; exact hbi))
      rw [HL.out] at E
      have HT2 := kd (show TX w x (ps.map strOfNums) wr from HT.out)
      have ZL : (ps.map strOfNums).length = ps.length := List.length_map _
      have i1 : (b : Int) ≤ (s.size : Int) := by omega
      clear EP NB HT hd
      go_wp2_with (with_reducible refine wpList_pushS rfl (.tmp 28) (.tmp 32) rfl x (ps.map strOfNums) rfl HT2.out (s.extract b s.size) rfl (by omega) ?_)
      intro v3 w3 L3 E3 l3 M3
      have M4 := kd (show TX w v3 ((ps ++ [subL X b s.size]).map strOfNums) w3 by
        have h := M3.out
        rw [E3.out, SU.out] at h
        rw [List.map_append]; exact h)
      clear M3 E3
      go_wp2_with fail
      go_ret
      rcases VX.form M4.out with ⟨h1, h2, _⟩ | ⟨g, cap, h1, h2, h3, h4, h5⟩
      · simp at h2
      · refine ⟨g, cap, ?_, M4.out.bw, h4, ?_, fun j p hp => h5 j _ ?_⟩
        · rw [E.out, h1, List.length_map]; rfl
        · rw [E.out, List.length_append, List.length_singleton]; omega
        · rw [E.out] at hp
          rw [List.getElem?_map, List.getElem?_map, hp]; rfl
def labV (X : List Int) : Value := .tuple #[.bool (labOK X), .bool (labOK X && wordL X)]
theorem labV_bad {X : List Int} (h : labOK X = false) : Value.tuple #[.bool false, .bool false] = labV X := by unfold labV; rw [h]; rfl
theorem labV_ok {X : List Int} {b : Bool} (h : labOK X = true) (hb : wordL X = b) : Value.tuple #[.bool true, .bool b] = labV X := by unfold labV; rw [h, hb]; rfl
theorem labOK_iff {X : List Int} : labOK X = true ↔ (1 ≤ X.length ∧ X.length ≤ 63) ∧ (X.getD 0 0 ≠ 45 ∧ X.getD (X.length - 1) 0 ≠ 45) ∧ ∀ c ∈ X, labC c = true := by
  unfold labOK
  simp only [Bool.and_eq_true, decide_eq_true_eq, bne_iff_ne, List.all_eq_true]
theorem labOK_no {X : List Int} (h : ¬ ((1 ≤ X.length ∧ X.length ≤ 63) ∧ (X.getD 0 0 ≠ 45 ∧ X.getD (X.length - 1) 0 ≠ 45) ∧ ∀ c ∈ X, labC c = true)) : labOK X = false := by
  rw [Bool.eq_false_iff, ne_eq, labOK_iff]; exact h
theorem rlabel_any (s : ByteArray) (w : World) (hs : s.size ≤ 4000000) : Calls Tryz.prog 63 #[.string s] w fun e w' => e = .returned (labV (byteL s)) ∧ w = w' := by
  have HL := kd (byteL_len s)
  have LB := kd (fun h => labV_bad (X := byteL s) h)
  have LO := kd (fun b h hb => labV_ok (X := byteL s) (b := b) h hb)
  have LI := kd (labOK_iff (X := byteL s))
  have LN := kd (labOK_no (X := byteL s))
  have LW := kd (show wordL (byteL s) = (byteL s).any fun c => !isDig c from rfl)
  rw [byteL_len] at LI LN
  generalize labV (byteL s) = V at *
  generalize labOK (byteL s) = OKK at *
  generalize wordL (byteL s) = WW at *
  obtain ⟨X, hX⟩ : ∃ X, byteL s = X := ⟨_, rfl⟩
  have HX := kd hX
  rw [hX] at HL LI LN LW
  clear hX
  go_enter Tryz.func63, Tryz.ntmps63
  by_cases h1 : 1 ≤ s.size ∧ s.size ≤ 63
  case neg =>
    have E := kd (LB.out (LN.out fun h => h1 h.1))
    rcases (show s.size < 1 ∨ (1 ≤ s.size ∧ 63 < s.size) by omega) with h2 | ⟨h2, h3⟩
    · have q0 : decide ((s.size : Int) < 1) = true := by simp; omega
      clear h1
      go_wp2_with fail
      go_ret2
      exact ⟨ret_un E.out, rfl⟩
    · have q0 : decide ((s.size : Int) < 1) = false := by simp; omega
      have q1 : decide ((63 : Int) < (s.size : Int)) = true := by simp; omega
      clear h1
      go_wp2_with fail
      go_ret2
      exact ⟨ret_un E.out, rfl⟩
  obtain ⟨h1, h2⟩ := h1
  have q0 : decide ((s.size : Int) < 1) = false := by simp; omega
  have q1 : decide ((63 : Int) < (s.size : Int)) = false := by simp; omega
  have j0 := fun w => idx_str s (i := 0) (by omega) (z := 0) rfl w
  have j1 := fun w => idx_str s (i := s.size - 1) (by omega) (z := (s.size : Int) - 1) (by omega) w
  rw [HX.out] at j0 j1
  obtain ⟨c0, hc0⟩ : ∃ c, X.getD 0 0 = c := ⟨_, rfl⟩
  obtain ⟨c1, hc1⟩ : ∃ c, X.getD (s.size - 1) 0 = c := ⟨_, rfl⟩
  rw [hc0] at j0 LI LN
  rw [hc1] at j1 LI LN
  clear hc0 hc1
  by_cases h3 : c0 = 45
  · have E := kd (LB.out (LN.out fun h => h.2.1.1 h3))
    have e0 : (c0 == 45) = true := by simp [h3]
    clear LI LN LW
    go_wp2_with fail
    go_ret2
    exact ⟨ret_un E.out, rfl⟩
  have e0 : (c0 == 45) = false := by simp [h3]
  by_cases h4 : c1 = 45
  · have E := kd (LB.out (LN.out fun h => h.2.1.2 h4))
    have e1 : (c1 == 45) = true := by simp [h4]
    clear LI LN LW
    go_wp2_with fail
    go_ret2
    exact ⟨ret_un E.out, rfl⟩
  have e1 : (c1 == 45) = false := by simp [h4]
  have LI2 := kd (show (∀ c ∈ X, labC c = true) → OKK = true from fun h => LI.out.2 ⟨⟨h1, h2⟩, ⟨h3, h4⟩, h⟩)
  have LN2 := kd (show ¬ (∀ c ∈ X, labC c = true) → OKK = false from fun h => LN.out fun h9 => h h9.2.2)
  clear LI LN h1 h2 h3 h4
  go_wp2_with fail
  go_loopw [4, 5] (fun v4 v5 wr => ∃ (i : Nat) (b : Bool), i ≤ s.size ∧ v4 = .bool b ∧ v5 = .int .i64 i ∧ w = wr ∧ Hid (b = (X.take i).any fun c => !isDig c) ∧ Hid (∀ c ∈ X.take i, labC c = true)) (fun _ v _ => s.size - (intOf v).toNat)
  case atStart => exact ⟨0, false, Nat.zero_le _, rfl, rfl, rfl, kd rfl, kd (fun c hc => by simp at hc)⟩
  case round =>
    clear q0 q1 j0 j1 e0 e1
    obtain ⟨i, b, hi, rfl, rfl, rfl, EB, AL⟩ := hrel
    by_cases hlt : i < s.size
    · have hd : decide ((i : Int) < (s.size : Int)) = true := by simp; omega
      have d1 := fun w => idx_str s (i := i) hlt (z := (i : Int)) rfl w
      rw [HX.out] at d1
      have hlt' : i < X.length := by rw [HL.out]; exact hlt
      have TS := kd (take_snocI X hlt')
      have BD := kd (show labC (X.getD i 0) = false → OKK = false from fun h => LN2.out fun h9 => by rw [h9 _ (getD_mem hlt')] at h; cases h)
      have LC := kd (show labC (X.getD i 0) = (isLet (X.getD i 0) || (isDig (X.getD i 0) || X.getD i 0 == 45)) from rfl)
      clear hlt'
      generalize X.getD i 0 = c at *
      have LT := kd (rletter_any c w); have DG := kd (rdigit_any c w)
      have NXT := kd (show labC c = true → ∀ d ∈ X.take (i + 1), labC d = true from fun h d hd => by
        rw [TS.out] at hd
        rcases List.mem_append.1 hd with hd | hd
        · exact AL.out d hd
        · rw [List.mem_singleton] at hd; subst hd; exact h)
      have NB := kd (show (X.take (i + 1)).any (fun c => !isDig c) = (b || !isDig c) by rw [TS.out, List.any_append, ← EB.out]; simp)
      generalize labC c = lc at *
      generalize isLet c = b1 at *
      generalize isDig c = b2 at *
      cases hc : (c == 45) with
      | _ =>
        rw [hc] at LC
        first
          | have hc2 : (c != 45) = true := by rw [bne, hc]; rfl
          | have hc2 : (c != 45) = false := by rw [bne, hc]; rfl
        cases b1 <;> cases b2 <;> cases b
        all_goals
          first
            | (have E := kd (LB.out (BD.out LC.out))
               clear BD LC NXT NB LO
               go_wp2_with (first | (go_at_call 94; refine LT.out.mono ?_; rintro e w' ⟨rfl, rfl⟩) | (go_at_call 95; refine DG.out.mono ?_; rintro e w' ⟨rfl, rfl⟩))
               go_ret2
               exact ⟨ret_un E.out, rfl⟩)
            | (have N1 := kd (NXT.out LC.out)
               have N2 := kd NB.out.symm
               clear BD LC NXT NB LB EB AL
               go_wp2_with (first | (go_at_call 94; refine LT.out.mono ?_; rintro e w' ⟨rfl, rfl⟩) | (go_at_call 95; refine DG.out.mono ?_; rintro e w' ⟨rfl, rfl⟩))
               go_roundw
               case rel => exact ⟨i + 1, _, by omega, rfl, by go_num, by first | rfl | trivial, N2, N1⟩
               case measure => simp [intOf]; omega)
    · obtain rfl : i = s.size := by omega
      have hd : decide ((s.size : Int) < (s.size : Int)) = false := by simp
      have TK : X.take s.size = X := List.take_of_length_le (by rw [HL.out]; exact Nat.le_refl _)
      have E := kd (LO.out b (LI2.out (by rw [← TK]; exact AL.out)) (by rw [LW.out, EB.out, TK]))
      clear TK
      go_wp2_with fail
      go_ret2
      exact ⟨ret_un E.out, rfl⟩

theorem rnum_no {X : List Int} (h : ¬ ((1 ≤ X.length ∧ X.length ≤ 3) ∧ (¬ (1 < X.length ∧ X.getD 0 0 = 48) ∧ (X.all isDig = true ∧ valL X ≤ 255)))) : rnum X = false := by
  rw [Bool.eq_false_iff, ne_eq, rnum_iff]; exact h
theorem dig_sub {c : Int} (h : isDig c = true) : 48 ≤ c ∧ c ≤ 57 := by
  unfold isDig at h
  rw [Bool.and_eq_true, decide_eq_true_iff, decide_eq_true_iff] at h
  exact h
theorem val_small {l : List Int} (h : l.all isDig = true) (hl : l.length ≤ 3) : 0 ≤ valL l ∧ valL l ≤ 999 := by
  obtain ⟨h1, h2⟩ := valL_range l h
  have h3 : (10 : Int) ^ l.length ≤ 1000 := by
    rcases (show l.length = 0 ∨ l.length = 1 ∨ l.length = 2 ∨ l.length = 3 by omega) with e | e | e | e <;> rw [e] <;> decide
  omega
theorem rnumber_any (s : ByteArray) (w : World) (hs : s.size ≤ 4000000) : Calls Tryz.prog 64 #[.string s] w fun e w' => e = .returned (.bool (rnum (byteL s))) ∧ w = w' := by
  have HL := kd (byteL_len s)
  have LI := kd (rnum_iff (n := byteL s))
  have LN := kd (rnum_no (X := byteL s))
  rw [byteL_len] at LI LN
  generalize rnum (byteL s) = OKK at *
  obtain ⟨X, hX⟩ : ∃ X, byteL s = X := ⟨_, rfl⟩
  have HX := kd hX
  rw [hX] at HL LI LN
  clear hX
  go_enter Tryz.func64, Tryz.ntmps64
  by_cases h1 : 1 ≤ s.size ∧ s.size ≤ 3
  case neg =>
    have E := kd (LN.out fun h => h1 h.1)
    rcases (show s.size < 1 ∨ (1 ≤ s.size ∧ 3 < s.size) by omega) with h2 | ⟨h2, h3⟩
    · have q0 : decide ((s.size : Int) < 1) = true := by simp; omega
      clear h1
      go_wp2_with fail
      go_ret
      exact ⟨ret_bool E.out.symm, rfl⟩
    · have q0 : decide ((s.size : Int) < 1) = false := by simp; omega
      have q1 : decide ((3 : Int) < (s.size : Int)) = true := by simp; omega
      clear h1
      go_wp2_with fail
      go_ret
      exact ⟨ret_bool E.out.symm, rfl⟩
  obtain ⟨h1, h2⟩ := h1
  have q0 : decide ((s.size : Int) < 1) = false := by simp; omega
  have q1 : decide ((3 : Int) < (s.size : Int)) = false := by simp; omega
  have j0 := fun w => idx_str s (i := 0) (by omega) (z := 0) rfl w
  rw [HX.out] at j0
  obtain ⟨c0, hc0⟩ : ∃ c, X.getD 0 0 = c := ⟨_, rfl⟩
  rw [hc0] at j0 LI LN
  clear hc0
  by_cases h3 : 1 < s.size ∧ c0 = 48
  · have E := kd (LN.out fun h => h.2.1 h3)
    obtain ⟨h3, h4⟩ := h3
    have e0 : (c0 == 48) = true := by simp [h4]
    have q2 : decide ((1 : Int) < (s.size : Int)) = true := by simp; omega
    clear LI LN
    go_wp2_with fail
    go_ret
    exact ⟨ret_bool E.out.symm, rfl⟩
  have LI2 := kd (show X.all isDig = true → valL X ≤ 255 → OKK = true from fun h h9 => LI.out.2 ⟨⟨h1, h2⟩, h3, h, h9⟩)
  have LN2 := kd (show ¬ (X.all isDig = true ∧ valL X ≤ 255) → OKK = false from fun h => LN.out fun h9 => h h9.2.2)
  have hor : s.size = 1 ∨ (1 < s.size ∧ (c0 == 48) = false) := by
    by_cases h4 : s.size = 1
    · exact .inl h4
    · exact .inr ⟨by omega, by simp; exact fun h => h3 ⟨by omega, h⟩⟩
  clear LI LN h3
  rcases hor with h3 | ⟨h3, e0⟩
  case' inl => have q2 : decide ((1 : Int) < (s.size : Int)) = false := by simp; omega
  case' inr => have q2 : decide ((1 : Int) < (s.size : Int)) = true := by simp; omega
  all_goals
    clear h3
    go_wp2_with fail
    go_loopw [3, 4] (fun v3 v4 wr => ∃ (i : Nat) (n : Int), i ≤ s.size ∧ v3 = .int .i64 n ∧ v4 = .int .i64 i ∧ w = wr ∧ 0 ≤ n ∧ n ≤ 999 ∧ Hid (n = valL (X.take i)) ∧ Hid ((X.take i).all isDig = true)) (fun _ v _ => s.size - (intOf v).toNat)
    case atStart => exact ⟨0, 0, Nat.zero_le _, rfl, rfl, rfl, by omega, by omega, kd rfl, kd rfl⟩
    case round =>
      clear q0 q1 q2 j0
      try clear e0
      obtain ⟨i, n, hi, rfl, rfl, rfl, n0, n9, EN, AL⟩ := hrel
      by_cases hlt : i < s.size
      · have hd : decide ((i : Int) < (s.size : Int)) = true := by simp; omega
        have d1 := fun w => idx_str s (i := i) hlt (z := (i : Int)) rfl w
        rw [HX.out] at d1
        have hlt' : i < X.length := by rw [HL.out]; exact hlt
        have TS := kd (take_snocI X hlt')
        have BD := kd (show isDig (X.getD i 0) = false → OKK = false from fun h => LN2.out fun h9 => by rw [List.all_eq_true.1 h9.1 _ (getD_mem hlt')] at h; cases h)
        have L3 := kd (show (X.take (i + 1)).length ≤ 3 by rw [List.length_take]; omega)
        clear hlt'
        generalize X.getD i 0 = c at *
        have DG := kd (rdigit_any c w)
        cases hp : isDig c with
        | false =>
          rw [hp] at DG
          have E := kd (BD.out hp)
          clear hp
          go_wp2_with (go_at_call 95; refine DG.out.mono ?_; rintro e w' ⟨rfl, rfl⟩)
          go_ret
          exact ⟨ret_bool E.out.symm, rfl⟩
        | true =>
          rw [hp] at DG
          obtain ⟨c1, c2⟩ := dig_sub hp
          have A2 := kd (show (X.take (i + 1)).all isDig = true by rw [TS.out, List.all_append, AL.out]; simp [hp])
          have E2 := kd (show 10 * n + (c - 48) = valL (X.take (i + 1)) by rw [TS.out, valL_snoc, ← EN.out])
          obtain ⟨b1, b2⟩ := val_small A2.out L3.out
          rw [← E2.out] at b1 b2
          clear hp BD EN AL
          go_wp2_with (go_at_call 95; refine DG.out.mono ?_; rintro e w' ⟨rfl, rfl⟩)
          go_roundw
          case rel => exact ⟨i + 1, _, by omega, rfl, by go_num, by first | rfl | trivial, b1, b2, E2, A2⟩
          case measure => simp [intOf]; omega
      · obtain rfl : i = s.size := by omega
        have hd : decide ((s.size : Int) < (s.size : Int)) = false := by simp
        have TK : X.take s.size = X := List.take_of_length_le (by rw [HL.out]; exact Nat.le_refl _)
        have E := kd (show OKK = decide (n ≤ 255) by
          have h := AL.out
          have h2 := EN.out
          rw [TK] at h h2
          by_cases h9 : n ≤ 255
          · rw [decide_eq_true h9]; exact LI2.out h (by rw [← h2]; exact h9)
          · rw [decide_eq_false h9]; exact LN2.out fun h8 => h9 (by rw [h2]; exact h8.2))
        clear TK LI2 LN2
        go_wp2_with fail
        go_ret
        exact ⟨ret_bool E.out.symm, rfl⟩
def grpV (X : List Int) : Value := if grpOK X = true then .tuple #[.string (strOfNums (grpN X)), .bool true] else .tuple #[.string ⟨#[]⟩, .bool false]
theorem grpV_bad {X : List Int} (h : ¬ ((1 ≤ X.length ∧ X.length ≤ 4) ∧ ∀ c ∈ X, 0 ≤ hexV c)) : Value.tuple #[.string ⟨#[]⟩, .bool false] = grpV X := by
  unfold grpV
  rw [if_neg]
  intro h2
  have h3 := grpOK_iff.1 h2
  exact h ⟨h3.1, h3.2⟩
theorem grpV_ok {X Y : List Int} (h : (1 ≤ X.length ∧ X.length ≤ 4) ∧ ∀ c ∈ X, 0 ≤ hexV c) (hY : lowS Y = grpN X) : Value.tuple #[.string (strOfNums (lowS Y)), .bool true] = grpV X := by
  unfold grpV
  rw [if_pos (grpOK_iff.2 ⟨h.1, h.2⟩), hY]
theorem strip_go {Y : List Int} (h : 1 < Y.length) (h2 : Y.getD 0 0 = 48) : rstrip Y = rstrip (Y.drop 1) ∧ Y.drop 1 ≠ [] := by
  match Y, h with
  | c :: d :: r, _ =>
    have : c = 48 := h2
    subst this
    exact ⟨by rw [rstrip, if_pos rfl]; rfl, by simp⟩
theorem strip_stop {Y : List Int} (h0 : Y ≠ []) (h : ¬ (1 < Y.length ∧ Y.getD 0 0 = 48)) : rstrip Y = Y := by
  match Y, h0 with
  | [c], _ => rfl
  | c :: d :: r, _ =>
    have : c ≠ 48 := fun e => h ⟨by simp, e⟩
    rw [rstrip, if_neg this]
theorem sub_tail (Y : List Int) (n : Nat) (h : Y.length = n) : subL Y 1 n = Y.drop 1 := by unfold subL; rw [List.take_of_length_le (by rw [List.length_drop]; omega)]
theorem rgroup_any (s : ByteArray) (w : World) (hs : s.size ≤ 4000000) : Calls Tryz.prog 165 #[.string s] w fun e w' => e = .returned (grpV (byteL s)) ∧ Below w.heap.size w w' := by
  have HL := kd (byteL_len s)
  have HB := kd (byteL_by s)
  have GB := kd (grpV_bad (X := byteL s))
  have GO := kd (fun Y h hY => grpV_ok (X := byteL s) (Y := Y) h hY)
  have SE := kd (fun h => rstrip_eq (g := byteL s) h)
  have SB := kd (str_byteL s)
  rw [byteL_len] at GB GO
  generalize grpV (byteL s) = V at *
  generalize grpN (byteL s) = GN at *
  obtain ⟨X, hX⟩ : ∃ X, byteL s = X := ⟨_, rfl⟩
  have HX := kd hX
  rw [hX] at HL HB GB GO SE SB
  clear hX
  go_enter Tryz.func165, Tryz.ntmps165
  by_cases h1 : 1 ≤ s.size ∧ s.size ≤ 4
  case neg =>
    have E := kd (GB.out fun h => h1 h.1)
    rcases (show s.size < 1 ∨ (1 ≤ s.size ∧ 4 < s.size) by omega) with h2 | ⟨h2, h3⟩
    · have q0 : decide ((s.size : Int) < 1) = true := by simp; omega
      clear h1
      go_wp2_with fail
      go_ret2
      exact ⟨ret_un E.out, Below.refl _ _⟩
    · have q0 : decide ((s.size : Int) < 1) = false := by simp; omega
      have q1 : decide ((4 : Int) < (s.size : Int)) = true := by simp; omega
      clear h1
      go_wp2_with fail
      go_ret2
      exact ⟨ret_un E.out, Below.refl _ _⟩
  obtain ⟨h1, h2⟩ := h1
  have q0 : decide ((s.size : Int) < 1) = false := by simp; omega
  have q1 : decide ((4 : Int) < (s.size : Int)) = false := by simp; omega
  have GO2 := kd (fun Y (h : ∀ c ∈ X, 0 ≤ hexV c) hY => GO.out Y ⟨⟨h1, h2⟩, h⟩ hY)
  have GB2 := kd (fun (h : ¬ ∀ c ∈ X, 0 ≤ hexV c) => GB.out fun h9 => h h9.2)
  clear GO GB
  go_wp2_with fail
  go_loopw [4] (fun v wr => ∃ i : Nat, i ≤ s.size ∧ v = .int .i64 i ∧ w = wr ∧ Hid (∀ c ∈ X.take i, 0 ≤ hexV c)) (fun v _ => s.size - (intOf v).toNat)
  case atStart => exact ⟨0, Nat.zero_le _, rfl, rfl, kd (fun c hc => by simp at hc)⟩
  case round =>
    clear q0 q1
    obtain ⟨i, hi, rfl, rfl, AL⟩ := hrel
    by_cases hlt : i < s.size
    · have hd : decide ((i : Int) < (s.size : Int)) = true := by simp; omega
      have d1 := fun w => idx_str s (i := i) hlt (z := (i : Int)) rfl w
      rw [HX.out] at d1
      have hlt' : i < X.length := by rw [HL.out]; exact hlt
      have TS := kd (take_snocI X hlt')
      have BD := kd (show hexV (X.getD i 0) < 0 → _ from fun h => GB2.out fun h9 => by have := h9 _ (getD_mem hlt'); omega)
      have XB := HB.out _ (getD_mem hlt')
      clear hlt'
      generalize X.getD i 0 = c at *
      have HX2 := kd (rhex_any c w XB.1 XB.2)
      have NX := kd (show 0 ≤ hexV c → ∀ d ∈ X.take (i + 1), 0 ≤ hexV d from fun h d hd => by
        rw [TS.out] at hd
        rcases List.mem_append.1 hd with hd | hd
        · exact AL.out d hd
        · rw [List.mem_singleton] at hd; subst hd; exact h)
      generalize hexV c = hv at *
      clear XB
      by_cases hn : hv < 0
      · have E := kd (BD.out hn)
        have q1 : decide (hv < 0) = true := by simp [hn]
        clear BD NX
        go_wp2_with (go_at_call 123; refine HX2.out.mono ?_; rintro e w' ⟨rfl, rfl⟩)
        go_ret2
        exact ⟨ret_un E.out, Below.refl _ _⟩
      · have q1 : decide (hv < 0) = false := by simp; omega
        have E := kd (NX.out (by omega))
        clear BD NX
        go_wp2_with (go_at_call 123; refine HX2.out.mono ?_; rintro e w' ⟨rfl, rfl⟩)
        go_roundw
        case rel => exact ⟨i + 1, by omega, by go_num, by first | rfl | trivial, E⟩
        case measure => simp [intOf]; omega
    · obtain rfl : i = s.size := by omega
      have hd : decide ((s.size : Int) < (s.size : Int)) = false := by simp
      have TK : X.take s.size = X := List.take_of_length_le (by rw [HL.out]; exact Nat.le_refl _)
      have AX := kd (show ∀ c ∈ X, 0 ≤ hexV c by have := AL.out; rw [TK] at this; exact this)
      have XN := kd (show X ≠ [] from fun e => by have := HL.out; rw [e] at this; simp at this; omega)
      clear TK AL GB2
      go_wp2_with fail
      go_loopw [0] (fun v wr => ∃ Y : List Int, v = .string (strOfNums Y) ∧ w = wr ∧ Y.length ≤ 4 ∧ Hid (Y ≠ []) ∧ Hid (By Y) ∧ Hid (rstrip Y = rstrip X)) (fun v _ => (match v with | .string t => t.size | _ => 0))
      case atStart => exact ⟨X, by rw [SB.out], rfl, by rw [HL.out]; omega, XN, HB, kd rfl⟩
      case round =>
        obtain ⟨Y, rfl, rfl, hY, YN, YB, YR⟩ := hrel
        have YZ := num_size Y
        have YL := byteL_str YB.out
        have y1 : 1 ≤ Y.length := by
          have := YN.out
          cases Y with
          | nil => exact absurd rfl this
          | cons a r => simp
        have i0 := fun w => idx_str (strOfNums Y) (i := 0) (by omega) (z := 0) rfl w
        rw [YL] at i0
        have GO3 := kd (GO2.out Y AX.out)
        have LW := kd (fun w => reflower_any (strOfNums Y) w (by omega))
        rw [YL] at LW
        have SG := kd (strip_go (Y := Y))
        have SS := kd (strip_stop (Y := Y) YN.out)
        have EX : (strOfNums Y).extract 1 Y.length = strOfNums (Y.drop 1) := by rw [str_sub, YL, sub_tail Y _ rfl]
        generalize Y.getD 0 0 = c at *
        by_cases hc : 1 < Y.length ∧ c = 48
        · obtain ⟨g1, g2⟩ := SG.out hc.1 hc.2
          obtain ⟨hc1, hc2⟩ := hc
          have q1 : decide ((1 : Int) < ((strOfNums Y).size : Int)) = true := by simp; omega
          have q2 : (c == 48) = true := by simp [hc2]
          have i9 : (1 : Int) ≤ ((strOfNums Y).size : Int) := by omega
          have G1 := kd (g1.symm.trans YR.out)
          have G2 := kd g2
          have G3 := kd (show By (Y.drop 1) from YB.out.sub (List.drop_sublist _ _))
          have G4 : (Y.drop 1).length ≤ 4 := by rw [List.length_drop]; omega
          have G5 := kd (show (strOfNums (Y.drop 1)).size < (strOfNums Y).size by rw [num_size, num_size, List.length_drop]; omega)
          have EXH := kd EX
          clear SG SS GO3 LW g1 g2 hc2 YR EX YL
          go_wp2_with fail
          rw [EXH.out]
          go_roundw
          case rel => exact ⟨Y.drop 1, rfl, by first | rfl | trivial, G4, G2, G3, G1⟩
          case measure => exact G5.out
        · have E := kd (GO3.out (by rw [← SS.out hc, YR.out]; exact SE.out XN.out))
          have hor : Y.length = 1 ∨ (1 < Y.length ∧ (c == 48) = false) := by
            by_cases h4 : Y.length = 1
            · exact .inl h4
            · exact .inr ⟨by omega, by simp; exact fun h => hc ⟨by omega, h⟩⟩
          clear SG SS GO3 EX hc YL
          rcases hor with h3 | ⟨h3, e0⟩
          case' inl => have q1 : decide ((1 : Int) < ((strOfNums Y).size : Int)) = false := by simp; omega
          case' inr => have q1 : decide ((1 : Int) < ((strOfNums Y).size : Int)) = true := by simp; omega
          all_goals
            go_wp2_with (go_at_call 65; refine (LW.out _).mono ?_; rintro e w' ⟨rfl, hb⟩; have B1 := kd hb; clear hb)
            go_ret2
            exact ⟨ret_un E.out, B1.out⟩

theorem le_sum : ∀ {l : List Nat} {x : Nat}, x ∈ l → x ≤ l.sum
  | a :: l, x, h => by
    rw [List.sum_cons]
    rcases List.mem_cons.1 h with rfl | h
    · omega
    · have := le_sum h; omega
theorem cut_le {c : Int} {X p : List Int} (h : p ∈ cutL c X) : p.length ≤ X.length := by
  have h1 := cut_sum c X
  have h2 := le_sum (List.mem_map.2 ⟨p, h, rfl⟩ : p.length + 1 ∈ (cutL c X).map (fun p => p.length + 1))
  omega
theorem colon_str2 : (⟨#[58]⟩ : ByteArray) = strOfNums [58] := rfl
def sideV (X : List Int) : Value := match sideL X with
  | some l => .tuple #[.string (strOfNums (joinL [58] l)), .int .i64 (l.length : Nat), .bool true]
  | none => .tuple #[.string ⟨#[]⟩, .int .i64 0, .bool false]
theorem sideV_bad {X : List Int} {j : Nat} {p : List Int} (hX : X ≠ []) (h : (cutL 58 X)[j]? = some p) (hp : grpOK p = false) : Value.tuple #[.string ⟨#[]⟩, .int .i64 0, .bool false] = sideV X := by
  unfold sideV sideL grpL
  rw [if_neg hX, if_neg]
  intro h2
  rw [List.all_eq_true.1 h2 p (List.mem_of_getElem? h)] at hp
  cases hp
theorem sideV_ok {X : List Int} (hX : X ≠ []) (h : ∀ p ∈ cutL 58 X, grpOK p = true) : Value.tuple #[.string (strOfNums (joinL [58] ((cutL 58 X).map grpN))), .int .i64 ((cutL 58 X).length : Nat), .bool true] = sideV X := by
  unfold sideV sideL grpL
  rw [if_neg hX, if_pos (List.all_eq_true.2 h)]
  dsimp only
  rw [List.length_map]
theorem join_grp {P : List (List Int)} {i : Nat} {p : List Int} (h : P[i]? = some p) : joinL [58] ((P.take (i + 1)).map grpN) = (if i = 0 then [] else joinL [58] ((P.take i).map grpN) ++ [58]) ++ grpN p := by
  have hi : i < P.length := (List.getElem?_eq_some_iff.1 h).1
  have e : P.take (i + 1) = P.take i ++ [p] := by
    rw [List.take_add_one, h]; rfl
  rw [e, List.map_append]
  by_cases h0 : i = 0
  · subst h0; rw [if_pos rfl]; exact joinL_one _ _
  · rw [if_neg h0, List.map_singleton, joinL_snoc _ _ _ (by intro e2; have := congrArg List.length e2; rw [List.length_map, List.length_take, List.length_nil] at this; omega), List.append_assoc]
theorem grpN_l4 {g : List Int} (h : grpOK g = true) : (grpN g).length ≤ 4 := by
  have h1 := grpOK_iff.1 h
  have h2 := grpN_le h1.1.1
  omega
theorem grpV_y {X : List Int} (h : grpOK X = true) : grpV X = .tuple #[.string (strOfNums (grpN X)), .bool true] := if_pos h
theorem grpV_n {X : List Int} (h : grpOK X = false) : grpV X = .tuple #[.string ⟨#[]⟩, .bool false] := if_neg (by rw [h]; decide)
theorem rgroups_any (s : ByteArray) (w : World) (hs : s.size ≤ 4000000) : Calls Tryz.prog 129 #[.string s] w fun e w' => e = .returned (sideV (byteL s)) ∧ Below w.heap.size w w' := by
  by_cases h0 : s = ⟨#[]⟩
  · subst h0
    go_enter Tryz.func129, Tryz.ntmps129
    go_wp2_with fail
    go_ret3
    exact ⟨rfl, Below.refl _ _⟩
  have hn : ¬ s.toList = [] := fun e => h0 (toList_nil.1 e)
  have hn2 : s.toList.isEmpty = false := by
    cases h : s.toList with
    | nil => exact absurd h hn
    | cons _ _ => rfl
  have PC := kd (fun w => rpieces_any s 58 w hs)
  have XN := kd (show byteL s ≠ [] from fun e => h0 (byteL_nil.1 e))
  have CB := kd (cutL_by (sep := 58) (byteL_by s))
  have CZ := kd (fun p (h : p ∈ cutL 58 (byteL s)) => show (strOfNums p).size ≤ 4000000 by have h1 := cut_le h; rw [byteL_len] at h1; rw [num_size]; omega)
  have BAD := kd (fun j p h hp => sideV_bad (X := byteL s) (j := j) (p := p) XN.out h hp)
  have OK := kd (fun h => sideV_ok (X := byteL s) XN.out h)
  generalize sideV (byteL s) = V at *
  generalize cutL 58 (byteL s) = P at *
  clear h0 XN
  go_enter Tryz.func129, Tryz.ntmps129
  go_wp2_with fail
  refine (PC.out w).mono ?_
  rintro _ w1 ⟨g, cap, rfl, hb1, hg, hl, hc⟩
  have B1 := kd hb1; have HG := kd hg; have HC := kd hc
  have HLn : P.length ≤ 4000001 := by omega
  clear hb1 hg hc hl PC
  go_wp2_with fail
  go_loopw [6, 7] (fun v6 v7 wr => ∃ (i : Nat) (t : ByteArray), i ≤ P.length ∧ v6 = .string t ∧ v7 = .int .i64 i ∧ t.size ≤ 5 * i ∧ Hid (t = strOfNums (joinL [58] ((P.take i).map grpN))) ∧ Hid (∀ p ∈ P.take i, grpOK p = true) ∧ Hid (Below w1.heap.size w1 wr)) (fun _ v _ => P.length - (intOf v).toNat)
  case atStart => exact ⟨0, _, Nat.zero_le _, rfl, rfl, Nat.le_refl _, kd rfl, kd (fun p hp => by simp at hp), kd (Below.refl _ _)⟩
  case round =>
    obtain ⟨i, t, hi, rfl, rfl, ht, ET, AL, HB⟩ := hrel
    by_cases hlt : i < P.length
    · have hd : decide (i < P.length) = true := by simp [hlt]
      have hd2 : decide ((i : Int) < (P.length : Int)) = true := by simp; omega
      obtain ⟨p, hp⟩ : ∃ p, P[i]? = some p := ⟨_, List.getElem?_eq_getElem hlt⟩
      have k0 : wr.cell? ⟨g, i, none⟩ = some (.string (strOfNums p)) := (HB.out.cell (p := ⟨g, i, none⟩) HG.out).trans (HC.out i p hp)
      have BP := CB.out p (List.mem_of_getElem? hp)
      have JG := kd (join_grp hp)
      have BD := kd (BAD.out i p hp)
      have AN := kd (show grpOK p = true → ∀ q ∈ P.take (i + 1), grpOK q = true from fun h q hq => by
        rw [List.take_add_one, hp] at hq
        rcases List.mem_append.1 hq with hq | hq
        · exact AL.out q hq
        · have : q = p := by simpa using hq
          subst this; exact h)
      have GL := kd (grpN_l4 (g := p))
      have RG := kd (fun w (h : (strOfNums p).size ≤ 4000000) => rgroup_any (strOfNums p) w h)
      rw [byteL_str BP] at RG
      have PL := kd (show grpOK p = true ∨ grpOK p = false by cases grpOK p <;> simp)
      have GY := kd (grpV_y (X := p)); have GN := kd (grpV_n (X := p))
      generalize grpV p = GV at *
      generalize grpN p = gn at *
      have SZ : (strOfNums p).size ≤ 4000000 := CZ.out p (List.mem_of_getElem? hp)
      rcases PL.out with hok | hok
      · have GV2 := GY.out hok
        subst GV2
        have N1 := kd (AN.out hok)
        have gl := GL.out hok
        have GS := num_size gn
        clear BD AN GL GN GY PL BP hok AL hp
        by_cases hi0 : i = 0
        · have T0 := kd (show t = ⟨#[]⟩ by rw [ET.out, hi0]; rfl)
          have p0 : ¬ (0 : Int) < (i : Int) := by omega
          have A1 : ∀ w, (Op.stringOp .add t (strOfNums gn)).run Tryz.prog w = .ok (.string (t ++ strOfNums gn)) w := fun w => by rw [run_string_add_sum (P := Tryz.prog) w _ _ (by omega)]
          have T1 := kd (show t ++ strOfNums gn = strOfNums (joinL [58] ((P.take (i + 1)).map grpN)) by rw [JG.out, if_pos hi0, T0.out]; rfl)
          have S1 : (t ++ strOfNums gn).size ≤ 5 * (i + 1) := by rw [ByteArray.size_append]; omega
          clear JG ET hi0
          go_wp2_with fail
          refine (RG.out _ SZ).mono ?_
          rintro _ w5 ⟨rfl, hb5⟩
          have B5 := kd (bthen HB.out hb5)
          clear hb5 k0
          go_wp2_with fail
          go_roundw
          case rel => exact ⟨i + 1, _, by omega, rfl, by go_num, S1, T1, N1, B5⟩
          case measure => simp [intOf]; omega
        · have p0 : (0 : Int) < (i : Int) := by omega
          have C1 : (⟨#[58]⟩ : ByteArray).size = 1 := rfl
          have A0 : ∀ w, (Op.stringOp .add t (⟨#[58]⟩ : ByteArray)).run Tryz.prog w = .ok (.string (t ++ (⟨#[58]⟩ : ByteArray))) w := fun w => by rw [run_string_add_sum (P := Tryz.prog) w _ _ (by omega)]
          have A1 : ∀ w, (Op.stringOp .add (t ++ (⟨#[58]⟩ : ByteArray)) (strOfNums gn)).run Tryz.prog w = .ok (.string ((t ++ (⟨#[58]⟩ : ByteArray)) ++ strOfNums gn)) w := fun w => by rw [run_string_add_sum (P := Tryz.prog) w _ _ (by rw [ByteArray.size_append]; omega)]
          have T1 := kd (show (t ++ (⟨#[58]⟩ : ByteArray)) ++ strOfNums gn = strOfNums (joinL [58] ((P.take (i + 1)).map grpN)) by rw [JG.out, if_neg hi0, ET.out, colon_str2, str_app, str_app])
          have S1 : ((t ++ (⟨#[58]⟩ : ByteArray)) ++ strOfNums gn).size ≤ 5 * (i + 1) := by rw [ByteArray.size_append, ByteArray.size_append]; omega
          clear JG ET
          go_wp2_with fail
          refine (RG.out _ SZ).mono ?_
          rintro _ w5 ⟨rfl, hb5⟩
          have B5 := kd (bthen HB.out hb5)
          clear hb5 k0
          go_wp2_with fail
          go_roundw
          case rel => exact ⟨i + 1, _, by omega, rfl, by go_num, S1, T1, N1, B5⟩
          case measure => simp [intOf]; omega
      · have GV2 := GN.out hok
        subst GV2
        have E := kd (BD.out hok)
        clear BD AN GL GN GY PL BP hok AL hp JG
        go_wp2_with fail
        refine (RG.out _ SZ).mono ?_
        rintro _ w5 ⟨rfl, hb5⟩
        have B5 := kd (bthen B1.out (bthen HB.out hb5))
        clear hb5 k0
        go_wp2_with fail
        go_ret3
        exact ⟨ret_un E.out, B5.out⟩
    · obtain rfl : i = P.length := by omega
      have hd2 : decide ((P.length : Int) < (P.length : Int)) = false := by simp
      have TK : P.take P.length = P := List.take_length
      have E := kd (OK.out (by have := AL.out; rw [TK] at this; exact this))
      have E2 := kd (show Value.tuple #[.string t, .int .i64 (P.length : Nat), .bool true] = V by rw [ET.out, TK]; exact E.out)
      clear TK AL ET E
      go_wp2_with fail
      go_ret3
      exact ⟨ret_un E2.out, bthen B1.out HB.out⟩

theorem dbl_step {X : List Int} {i : Nat} (hi : i + 1 < X.length) (h : ¬ (X.getD i 0 = 58 ∧ X.getD (i + 1) 0 = 58)) (hr : dblL X = (dblL (X.drop i)).map fun p => (X.take i ++ p.1, p.2)) : dblL X = (dblL (X.drop (i + 1))).map fun p => (X.take (i + 1) ++ p.1, p.2) := by
  rw [hr]
  have e1 : X.drop i = X.getD i 0 :: X.drop (i + 1) := drop_getD (by omega)
  have e2 : X.drop (i + 1) = X.getD (i + 1) 0 :: X.drop (i + 1 + 1) := drop_getD hi
  rw [e1, e2]
  rw [show dblL (X.getD i 0 :: X.getD (i + 1) 0 :: X.drop (i + 1 + 1)) = (dblL (X.getD (i + 1) 0 :: X.drop (i + 1 + 1))).map fun p => (X.getD i 0 :: p.1, p.2) by
    conv => lhs; unfold dblL
    rw [if_neg h]]
  rw [Option.map_map, take_snocI X (by omega)]
  congr 1
  funext p
  simp
theorem dbl_hit {X : List Int} {i : Nat} (hi : i + 1 < X.length) (h1 : X.getD i 0 = 58) (h2 : X.getD (i + 1) 0 = 58) (hr : dblL X = (dblL (X.drop i)).map fun p => (X.take i ++ p.1, p.2)) : dblL X = some (X.take i, X.drop (i + 2)) := by
  rw [hr]
  have e1 : X.drop i = X.getD i 0 :: X.drop (i + 1) := drop_getD (by omega)
  have e2 : X.drop (i + 1) = X.getD (i + 1) 0 :: X.drop (i + 1 + 1) := drop_getD hi
  rw [e1, e2, h1, h2]
  conv => lhs; unfold dblL
  rw [if_pos ⟨rfl, rfl⟩]
  simp
theorem dbl_end {X : List Int} {i : Nat} (hi : X.length ≤ i + 1) (hr : dblL X = (dblL (X.drop i)).map fun p => (X.take i ++ p.1, p.2)) : dblL X = none := by
  rw [hr]
  have : (X.drop i).length ≤ 1 := by rw [List.length_drop]; omega
  match hq : X.drop i, this with
  | [], _ => rfl
  | [a], _ => rfl
  | a :: b :: r, h => simp at h
def SixP (X : List Int) (e : Ending) : Prop := match rsixL X with
  | some y => e = .returned (.tuple #[.string (strOfNums y), .bool true])
  | none => ∃ t : ByteArray, e = .returned (.tuple #[.string t, .bool false])
theorem six_two {X A B : List Int} (h : dblL X = some (A, B)) : rsixL X = match sideL A, sideL B with
    | some x, some y => if 7 < x.length + y.length then none else some (joinL [58] x ++ [58, 58] ++ joinL [58] y)
    | _, _ => none := by
  unfold rsixL; rw [h]; rfl
theorem six_one {X : List Int} (h : dblL X = none) : rsixL X = match sideL X with
    | some l => if l.length = 8 then some (joinL [58] l) else none
    | none => none := by
  unfold rsixL; rw [h]; rfl
theorem SixP.no {X : List Int} {t : ByteArray} (h : rsixL X = none) : SixP X (.returned (.tuple #[.string t, .bool false])) := by unfold SixP; rw [h]; exact ⟨_, rfl⟩
theorem SixP.yes {X y : List Int} (h : rsixL X = some y) : SixP X (.returned (.tuple #[.string (strOfNums y), .bool true])) := by unfold SixP; rw [h]
theorem side_some {X : List Int} {l : List (List Int)} (h : sideL X = some l) : sideV X = .tuple #[.string (strOfNums (joinL [58] l)), .int .i64 (l.length : Nat), .bool true] := by unfold sideV; rw [h]
theorem side_none {X : List Int} (h : sideL X = none) : sideV X = .tuple #[.string ⟨#[]⟩, .int .i64 0, .bool false] := by unfold sideV; rw [h]
theorem side_size {X : List Int} {l : List (List Int)} (h : sideL X = some l) : (joinL [58] l).length ≤ X.length ∧ l.length ≤ X.length + 1 := by
  refine ⟨side_shrink h, ?_⟩
  unfold sideL at h
  split at h
  · injection h with h; subst h; simp
  · unfold grpL at h
    split at h
    · injection h with h; subst h
      rw [List.length_map]
      have h1 := cut_sum 58 X
      have h2 : ∀ l : List (List Int), l.length ≤ (l.map (fun p => p.length + 1)).sum := fun l => by
        induction l with
        | nil => simp
        | cons a l ih => rw [List.map_cons, List.sum_cons, List.length_cons]; omega
      have h3 := h2 (cutL 58 X)
      omega
    · cases h
theorem rsix_any (s : ByteArray) (w : World) (hs : s.size ≤ 4000000) : Calls Tryz.prog 61 #[.string s] w fun e w' => SixP (byteL s) e ∧ Below w.heap.size w w' := by
  have HL := kd (byteL_len s)
  have NO := kd (fun t h => SixP.no (X := byteL s) (t := t) h)
  have YES := kd (fun y h => SixP.yes (X := byteL s) (y := y) h)
  have S2 := kd (fun A B h => six_two (X := byteL s) (A := A) (B := B) h)
  have S1 := kd (six_one (X := byteL s))
  have GA := kd (fun w => rgroups_any s w hs)
  have GL := kd (fun i w => rgroups_any (s.extract 0 i) w (by rw [ByteArray.size_extract]; omega))
  have GR := kd (fun i w => rgroups_any (s.extract i s.size) w (by rw [ByteArray.size_extract]; omega))
  have XL := kd (fun i => show byteL (s.extract 0 i) = (byteL s).take i by rw [byteL_extract, List.drop_zero, Nat.sub_zero])
  have XR := kd (fun i => show byteL (s.extract i s.size) = (byteL s).drop i by rw [byteL_extract, List.take_of_length_le (by rw [List.length_drop, byteL_len]; exact Nat.le_refl _)])
  generalize SixP (byteL s) = PP at *
  generalize rsixL (byteL s) = R at *
  obtain ⟨X, hX⟩ : ∃ X, byteL s = X := ⟨_, rfl⟩
  have HX := kd hX
  rw [hX] at HL S2 S1 GA XL XR
  clear hX
  go_enter Tryz.func61, Tryz.ntmps61
  go_wp2_with fail
  go_loopw [4] (fun v wr => ∃ i : Nat, i ≤ s.size ∧ v = .int .i64 i ∧ w = wr ∧ Hid (dblL X = (dblL (X.drop i)).map fun p => (X.take i ++ p.1, p.2))) (fun v _ => s.size - (intOf v).toNat)
  case atStart => exact ⟨0, Nat.zero_le _, rfl, rfl, kd (by rw [List.drop_zero, List.take_zero]; cases dblL X <;> rfl)⟩
  case round =>
    obtain ⟨i, hi, rfl, rfl, DB⟩ := hrel
    by_cases hlt : i + 1 < s.size
    · have hd : decide ((i : Int) + 1 < (s.size : Int)) = true := by simp; omega
      have d1 := fun w => idx_str s (i := i) (by omega) (z := (i : Int)) rfl w
      have d2 := fun w => idx_str s (i := i + 1) hlt (z := (i : Int) + 1) (by omega) w
      rw [HX.out] at d1 d2
      have hlt' : i + 1 < X.length := by rw [HL.out]; exact hlt
      have ST := kd (fun h => dbl_step hlt' h DB.out)
      have HT := kd (fun h1 h2 => dbl_hit hlt' h1 h2 DB.out)
      clear hlt'
      generalize X.getD i 0 = c at *
      generalize X.getD (i + 1) 0 = d at *
      by_cases h1 : c = 58 ∧ d = 58
      · have E := kd (HT.out h1.1 h1.2)
        obtain ⟨h1, h2⟩ := h1
        have e1 : (c != 58) = false := by simp [h1]
        have e2 : (d != 58) = false := by simp [h2]
        have RE := kd (S2.out _ _ E.out)
        have GL2 := kd (GL.out i)
        have GR2 := kd (GR.out (i + 2))
        rw [XL.out] at GL2
        rw [XR.out] at GR2
        have ZL := kd (fun l => side_size (X := X.take i) (l := l))
        have ZR := kd (fun l => side_size (X := X.drop (i + 2)) (l := l))
        rw [List.length_take, HL.out] at ZL
        rw [List.length_drop, HL.out] at ZR
        have SA := kd (fun l => side_some (X := X.take i) (l := l)); have SB := kd (side_none (X := X.take i))
        have SC := kd (fun l => side_some (X := X.drop (i + 2)) (l := l)); have SD := kd (side_none (X := X.drop (i + 2)))
        clear ST HT S1 S2 E DB GA GL GR XL XR
        have i1 : (i : Int) ≤ (s.size : Int) := by omega
        have i2 : (i : Int) + 2 ≤ (s.size : Int) := by omega
        generalize sideV (X.take i) = VA at *
        generalize sideV (X.drop (i + 2)) = VB at *
        generalize sideL (X.take i) = LA at *
        generalize sideL (X.drop (i + 2)) = LB at *
        cases LA with
        | none =>
          have E := kd (show R = none from RE.out)
          have e := SB.out rfl
          subst e
          clear SA SB RE
          cases LB with
          | none =>
            have e := SD.out rfl
            subst e
            clear SC SD
            go_wp2_with fail
            refine (GL2.out _).mono ?_
            rintro _ w2 ⟨rfl, hb2⟩
            have B2 := kd hb2
            clear hb2
            go_wp2_with fail
            refine (GR2.out _).mono ?_
            rintro _ w3 ⟨rfl, hb3⟩
            have B3 := kd (bthen B2.out hb3)
            clear hb3
            go_wp2_with fail
            go_ret2
            exact ⟨NO.out _ E.out, B3.out⟩
          | some lb =>
            have e := SC.out lb rfl
            subst e
            clear SC SD
            go_wp2_with fail
            refine (GL2.out _).mono ?_
            rintro _ w2 ⟨rfl, hb2⟩
            have B2 := kd hb2
            clear hb2
            go_wp2_with fail
            refine (GR2.out _).mono ?_
            rintro _ w3 ⟨rfl, hb3⟩
            have B3 := kd (bthen B2.out hb3)
            clear hb3
            go_wp2_with fail
            go_ret2
            exact ⟨NO.out _ E.out, B3.out⟩
        | some la =>
          have e := SA.out la rfl
          subst e
          obtain ⟨za1, za2⟩ := ZL.out la rfl
          clear SA SB ZL
          cases LB with
          | none =>
            have E := kd (show R = none from RE.out)
            have e := SD.out rfl
            subst e
            clear SC SD RE
            go_wp2_with fail
            refine (GL2.out _).mono ?_
            rintro _ w2 ⟨rfl, hb2⟩
            have B2 := kd hb2
            clear hb2
            go_wp2_with fail
            refine (GR2.out _).mono ?_
            rintro _ w3 ⟨rfl, hb3⟩
            have B3 := kd (bthen B2.out hb3)
            clear hb3
            go_wp2_with fail
            go_ret2
            exact ⟨NO.out _ E.out, B3.out⟩
          | some lb =>
            have e := SC.out lb rfl
            subst e
            obtain ⟨zb1, zb2⟩ := ZR.out lb rfl
            clear SC SD ZR
            have RE2 := kd (show R = if 7 < la.length + lb.length then none else some (joinL [58] la ++ [58, 58] ++ joinL [58] lb) from RE.out)
            clear RE
            have JA := num_size (joinL [58] la)
            have JB := num_size (joinL [58] lb)
            have JE := kd (show strOfNums (joinL [58] la ++ [58, 58] ++ joinL [58] lb) = (strOfNums (joinL [58] la) ++ (⟨#[58, 58]⟩ : ByteArray)) ++ strOfNums (joinL [58] lb) by rw [show (⟨#[58, 58]⟩ : ByteArray) = strOfNums [58, 58] from rfl, str_app, str_app])
            rw [← JA] at za1
            rw [← JB] at zb1
            have JY := kd (YES.out (joinL [58] la ++ [58, 58] ++ joinL [58] lb))
            rw [JE.out] at JY
            generalize joinL [58] la ++ [58, 58] ++ joinL [58] lb = JJ at *
            generalize strOfNums (joinL [58] la) = ta at *
            generalize strOfNums (joinL [58] lb) = tb at *
            have C1 : (⟨#[58, 58]⟩ : ByteArray).size = 2 := rfl
            have A0 : ∀ w, (Op.stringOp .add ta (⟨#[58, 58]⟩ : ByteArray)).run Tryz.prog w = .ok (.string (ta ++ (⟨#[58, 58]⟩ : ByteArray))) w := fun w => by rw [run_string_add_sum (P := Tryz.prog) w _ _ (by omega)]
            have A1 : ∀ w, (Op.stringOp .add (ta ++ (⟨#[58, 58]⟩ : ByteArray)) tb).run Tryz.prog w = .ok (.string ((ta ++ (⟨#[58, 58]⟩ : ByteArray)) ++ tb)) w := fun w => by rw [run_string_add_sum (P := Tryz.prog) w _ _ (by rw [ByteArray.size_append]; omega)]
            by_cases h7 : 7 < la.length + lb.length
            · have E := kd (RE2.out.trans (if_pos h7))
              have q7 : decide ((7 : Int) < (la.length : Int) + (lb.length : Int)) = true := by simp; omega
              clear RE2 A0 A1
              go_wp2_with fail
              refine (GL2.out _).mono ?_
              rintro _ w2 ⟨rfl, hb2⟩
              have B2 := kd hb2
              clear hb2
              go_wp2_with fail
              refine (GR2.out _).mono ?_
              rintro _ w3 ⟨rfl, hb3⟩
              have B3 := kd (bthen B2.out hb3)
              clear hb3
              go_wp2_with fail
              go_ret2
              exact ⟨NO.out _ E.out, B3.out⟩
            · have E := kd (RE2.out.trans (if_neg h7))
              have q7 : decide ((7 : Int) < (la.length : Int) + (lb.length : Int)) = false := by simp; omega
              clear RE2
              go_wp2_with fail
              refine (GL2.out _).mono ?_
              rintro _ w2 ⟨rfl, hb2⟩
              have B2 := kd hb2
              clear hb2
              go_wp2_with fail
              refine (GR2.out _).mono ?_
              rintro _ w3 ⟨rfl, hb3⟩
              have B3 := kd (bthen B2.out hb3)
              clear hb3
              go_wp2_with fail
              go_ret2
              exact ⟨JY.out E.out, B3.out⟩
      · have E := kd (ST.out h1)
        have hor : (c != 58) = true ∨ ((c != 58) = false ∧ (d != 58) = true) := by
          by_cases h2 : c = 58
          · exact .inr ⟨by simp [h2], by simp; exact fun h => h1 ⟨h2, h⟩⟩
          · exact .inl (by simpa using h2)
        clear ST HT h1 S1 S2 GA GL GR XL XR DB
        rcases hor with e1 | ⟨e1, e2⟩
        all_goals
          go_wp2_with fail
          go_roundw
          case rel => exact ⟨i + 1, by omega, by go_num, by first | rfl | trivial, E⟩
          case measure => simp [intOf]; omega
    · have hd : decide ((i : Int) + 1 < (s.size : Int)) = false := by simp; omega
      have E := kd (dbl_end (by rw [HL.out]; omega) DB.out)
      have RE := kd (S1.out E.out)
      have SC := kd (fun l => side_some (X := X) (l := l)); have SD := kd (side_none (X := X))
      clear S1 S2 E DB GL GR XL XR hlt
      generalize sideV X = VA at *
      generalize sideL X = LA at *
      cases LA with
      | none =>
        have E := kd (show R = none from RE.out)
        have e := SD.out rfl
        subst e
        go_wp2_with fail
        refine (GA.out _).mono ?_
        rintro _ w2 ⟨rfl, hb2⟩
        have B2 := kd hb2
        clear hb2
        go_wp2_with fail
        go_ret2
        exact ⟨NO.out _ E.out, B2.out⟩
      | some l =>
        have e := SC.out l rfl
        subst e
        have RE2 := kd (show R = if l.length = 8 then some (joinL [58] l) else none from RE.out)
        clear RE SC SD
        by_cases h8 : l.length = 8
        · have E := kd (RE2.out.trans (if_pos h8))
          have q8 : ((l.length : Int) == 8) = true := by simp; omega
          have q8' : (l.length == 8) = true := by simp; omega
          clear RE2 h8
          go_wp2_with fail
          refine (GA.out _).mono ?_
          rintro _ w2 ⟨rfl, hb2⟩
          have B2 := kd hb2
          clear hb2
          go_wp2_with fail
          go_ret2
          exact ⟨YES.out _ E.out, B2.out⟩
        · have E := kd (RE2.out.trans (if_neg h8))
          have q8 : ((l.length : Int) == 8) = false := by simp; omega
          have q8' : (l.length == 8) = false := by simp; omega
          clear RE2 h8
          go_wp2_with fail
          refine (GA.out _).mono ?_
          rintro _ w2 ⟨rfl, hb2⟩
          have B2 := kd hb2
          clear hb2
          go_wp2_with fail
          go_ret2
          exact ⟨NO.out _ E.out, B2.out⟩

theorem rh_brack {X : List Int} (h : 2 ≤ X.length ∧ X.getD 0 0 = 91 ∧ X.getD (X.length - 1) 0 = 93) : hostL X = (rsixL (subL X 1 (X.length - 1))).map fun g => [91] ++ g ++ [93] := by rw [← rhostL_eq]; unfold rhostL; rw [if_pos h]
theorem rh_dots {X : List Int} (h : ¬ (2 ≤ X.length ∧ X.getD 0 0 = 91 ∧ X.getD (X.length - 1) 0 = 93)) : hostL X = rhostD X := by rw [← rhostL_eq]; unfold rhostL; rw [if_neg h]
theorem rhD_bad {X p : List Int} {j : Nat} (h : (cutL 46 X)[j]? = some p) (hp : labOK p = false) : rhostD X = none := by
  unfold rhostD
  rw [if_neg]
  rintro ⟨h2, _⟩
  rw [List.all_eq_true.1 h2 p (List.mem_of_getElem? h)] at hp
  cases hp
theorem rhD_end {X : List Int} {b8 b9 : Bool} (h : ∀ p ∈ cutL 46 X, labOK p = true) (h8 : b8 = (decide ((cutL 46 X).length = 4) && (cutL 46 X).all rnum)) (h9 : b9 = (cutL 46 X).any wordL) : rhostD X = if X.length ≤ 255 ∧ (b9 = true ∨ b8 = true) then some (lowS X) else none := by
  unfold rhostD
  subst h8 h9
  by_cases hh : X.length ≤ 255 ∧ ((cutL 46 X).any wordL = true ∨ (decide ((cutL 46 X).length = 4) && (cutL 46 X).all rnum) = true)
  · rw [if_pos hh, if_pos]
    refine ⟨List.all_eq_true.2 h, hh.1, ?_⟩
    rcases hh.2 with h1 | h1
    · exact .inl h1
    · rw [Bool.and_eq_true, decide_eq_true_eq] at h1; exact .inr h1
  · rw [if_neg hh, if_neg]
    rintro ⟨_, h2, h3⟩
    refine hh ⟨h2, ?_⟩
    rcases h3 with h1 | h1
    · exact .inl h1
    · exact .inr (by rw [Bool.and_eq_true, decide_eq_true_eq]; exact h1)
theorem rhost_any (s : ByteArray) (w : World) (hs : s.size ≤ 4000000) : Calls Tryz.prog 21 #[.string s] w fun e w' => e = .returned (hostV (hostL (byteL s))) ∧ Below w.heap.size w w' := by
  have HL := kd (byteL_len s)
  have RB := kd (rh_brack (X := byteL s)); have RD := kd (rh_dots (X := byteL s))
  have HZ := kd (fun h => host_len (s := byteL s) (h := h))
  have DB := kd (fun p j h hp => rhD_bad (X := byteL s) (p := p) (j := j) h hp)
  have DE := kd (fun b8 b9 h h8 h9 => rhD_end (X := byteL s) (b8 := b8) (b9 := b9) h h8 h9)
  have CB := kd (cutL_by (sep := 46) (byteL_by s))
  have CZ := kd (fun p (h : p ∈ cutL 46 (byteL s)) => show (strOfNums p).size ≤ 4000000 by have h1 := cut_le h; rw [byteL_len] at h1; rw [num_size]; omega)
  have PC := kd (fun w => rpieces_any s 46 w hs)
  have LW := kd (fun w => reflower_any s w hs)
  have SX := kd (fun w => rsix_any (s.extract 1 (s.size - 1)) w (by rw [ByteArray.size_extract]; omega))
  rw [byteL_extract] at SX
  have SXX := kd (show ((byteL s).drop 1).take (s.size - 1 - 1) = subL (byteL s) 1 (s.size - 1) from rfl)
  rw [SXX.out] at SX
  rw [byteL_len] at RB RD HZ DE
  have HV1 := kd (fun (a : ByteArray) (h : List Int) (hR : hostL (byteL s) = some h) ha => ret_host (a := a) hR ha)
  have HV0 := kd (fun hR => ret_hno (R := hostL (byteL s)) hR)
  generalize hostV (hostL (byteL s)) = V at *
  generalize hostL (byteL s) = R at *
  generalize rhostD (byteL s) = D at *
  obtain ⟨X, hX⟩ : ∃ X, byteL s = X := ⟨_, rfl⟩
  have HX := kd hX
  rw [hX] at HL RB RD DB DE CB CZ PC LW SX SXX
  clear hX SXX
  generalize cutL 46 X = P at *
  go_enter Tryz.func21, Tryz.ntmps21
  have QB : (2 ≤ s.size ∧ X.getD 0 0 = 91 ∧ X.getD (s.size - 1) 0 = 93) ∨ (¬ (2 ≤ s.size ∧ X.getD 0 0 = 91 ∧ X.getD (s.size - 1) 0 = 93)) := Classical.em _
  rcases QB with hb | hb
  · have RE := kd (RB.out hb)
    obtain ⟨h2, h3, h4⟩ := hb
    have d0 : decide ((2 : Int) ≤ (s.size : Int)) = true := by simp; omega
    have j0 := fun w => idx_str s (i := 0) (by omega) (z := 0) rfl w
    have j1 := fun w => idx_str s (i := s.size - 1) (by omega) (z := (s.size : Int) - 1) (by omega) w
    rw [HX.out] at j0 j1
    rw [h3] at j0
    rw [h4] at j1
    have i1 : (1 : Int) ≤ (s.size : Int) - 1 := by omega
    have i2 : (s.size : Int) - 1 ≤ (s.size : Int) := by omega
    have i3 : ((s.size : Int) - 1).toNat = s.size - 1 := by omega
    clear RB RD DB DE CB CZ PC LW h3 h4
    go_wp2_with fail
    refine (SX.out _).mono ?_
    rintro e w2 ⟨hP, hb2⟩
    have B2 := kd hb2
    clear hb2 SX
    unfold SixP at hP
    generalize rsixL (subL X 1 (s.size - 1)) = SS at *
    cases SS with
    | none =>
      obtain ⟨t, rfl⟩ := hP
      have E := kd (HV0.out RE.out)
      go_wp2_with fail
      go_ret2
      exact ⟨E.out, B2.out⟩
    | some y =>
      subst hP
      have hz : ([91] ++ y ++ [93] : List Int).length ≤ s.size := HZ.out _ RE.out
      have E := kd (HV1.out (strOfNums ([91] ++ y ++ [93])) _ RE.out rfl)
      have YZ := num_size y
      have zz : y.length + 2 ≤ s.size := by
        have h1 : ([91] ++ y ++ [93] : List Int).length = y.length + 2 := by simp
        omega
      have EY := kd (show strOfNums ([91] ++ y ++ [93]) = ((⟨#[91]⟩ : ByteArray) ++ strOfNums y) ++ (⟨#[93]⟩ : ByteArray) by rw [show (⟨#[91]⟩ : ByteArray) = strOfNums [91] from rfl, show (⟨#[93]⟩ : ByteArray) = strOfNums [93] from rfl, str_app, str_app])
      rw [EY.out] at E
      have C1 : (⟨#[91]⟩ : ByteArray).size = 1 := rfl
      have C2 : (⟨#[93]⟩ : ByteArray).size = 1 := rfl
      clear RE hz HZ HV1 HV0 EY
      generalize strOfNums y = ty at *
      have A0 : ∀ w, (Op.stringOp .add (⟨#[91]⟩ : ByteArray) ty).run Tryz.prog w = .ok (.string ((⟨#[91]⟩ : ByteArray) ++ ty)) w := fun w => by rw [run_string_add_sum (P := Tryz.prog) w _ _ (by omega)]
      have A1 : ∀ w, (Op.stringOp .add ((⟨#[91]⟩ : ByteArray) ++ ty) (⟨#[93]⟩ : ByteArray)).run Tryz.prog w = .ok (.string (((⟨#[91]⟩ : ByteArray) ++ ty) ++ (⟨#[93]⟩ : ByteArray))) w := fun w => by rw [run_string_add_sum (P := Tryz.prog) w _ _ (by rw [ByteArray.size_append]; omega)]
      go_wp2_with fail
      go_ret2
      exact ⟨E.out, B2.out⟩
  have RE := kd (RD.out hb)
  have hor : s.size < 2 ∨ (2 ≤ s.size ∧ (X.getD 0 0 == 91) = false) ∨ (2 ≤ s.size ∧ (X.getD 0 0 == 91) = true ∧ (X.getD (s.size - 1) 0 == 93) = false) := by
    by_cases h1 : s.size < 2
    · exact .inl h1
    · by_cases h2 : X.getD 0 0 = 91
      · exact .inr (.inr ⟨by omega, by rw [h2]; rfl, by rw [beq_eq_false_iff_ne]; exact fun h => hb ⟨by omega, h2, h⟩⟩)
      · exact .inr (.inl ⟨by omega, by rw [beq_eq_false_iff_ne]; exact h2⟩)
  have J0 := kd (fun (h : 2 ≤ s.size) => fun w => idx_str s (i := 0) (by omega) (z := 0) rfl w)
  have J1 := kd (fun (h : 2 ≤ s.size) => fun w => idx_str s (i := s.size - 1) (by omega) (z := (s.size : Int) - 1) (by omega) w)
  rw [HX.out] at J0 J1
  have DBR := kd (fun p j h hp => HV0.out (RE.out.trans (DB.out p j h hp)))
  have DER := kd (fun b8 b9 h h8 h9 => RE.out.trans (DE.out b8 b9 h h8 h9))
  clear RB RD hb SX DB DE HZ RE
  generalize X.getD 0 0 = c0 at *
  generalize X.getD (s.size - 1) 0 = c1 at *
  rcases hor with h1 | ⟨h1, e0⟩ | ⟨h1, e0, e1⟩
  all_goals
    first
      | (have d0 : decide ((2 : Int) ≤ (s.size : Int)) = false := by simp; omega)
      | (have d0 : decide ((2 : Int) ≤ (s.size : Int)) = true := by simp; omega
         have j0 := J0.out h1
         have j1 := J1.out h1)
    clear J0 J1
    go_wp2_with fail
    refine (PC.out _).mono ?_
    rintro _ w1 ⟨g, cap, rfl, hb1, hg, hl, hc⟩
    have B1 := kd hb1; have HG := kd hg; have HC := kd hc
    have HLn : P.length ≤ 4000001 := by omega
    clear hb1 hg hc hl PC d0 h1
    try clear j0
    try clear e0
    try clear j1
    try clear e1
    go_wp2_with fail
    go_loopw [8, 9, 10] (fun v8 v9 v10 wr => ∃ (i : Nat) (b8 b9 : Bool), i ≤ P.length ∧ v8 = .bool b8 ∧ v9 = .bool b9 ∧ v10 = .int .i64 i ∧ Hid (b8 = (decide (P.length = 4) && (P.take i).all rnum)) ∧ Hid (b9 = (P.take i).any wordL) ∧ Hid (∀ p ∈ P.take i, labOK p = true) ∧ Hid (Below w1.heap.size w1 wr)) (fun _ _ v _ => P.length - (intOf v).toNat)
    all_goals try exact ⟨0, _, _, Nat.zero_le _, rfl, rfl, rfl, kd (by rw [List.take_zero, List.all_nil, Bool.and_true]; rw [Bool.eq_iff_iff]; simp; try omega), kd rfl, kd (fun p hp => by simp at hp), kd (Below.refl _ _)⟩
    obtain ⟨i, b8, b9, hi, rfl, rfl, rfl, E8, E9, AL, HB⟩ := hrel
    by_cases hlt : i < P.length
    · have hd : decide (i < P.length) = true := by simp [hlt]
      have hd2 : decide ((i : Int) < (P.length : Int)) = true := by simp; omega
      obtain ⟨p, hp⟩ : ∃ p, P[i]? = some p := ⟨_, List.getElem?_eq_getElem hlt⟩
      have k0 : wr.cell? ⟨g, i, none⟩ = some (.string (strOfNums p)) := (HB.out.cell (p := ⟨g, i, none⟩) HG.out).trans (HC.out i p hp)
      have BP := CB.out p (List.mem_of_getElem? hp)
      have SZ : (strOfNums p).size ≤ 4000000 := CZ.out p (List.mem_of_getElem? hp)
      have BD := kd (DBR.out p i hp)
      have TK := kd (show P.take (i + 1) = P.take i ++ [p] by rw [List.take_add_one, hp]; rfl)
      have AN := kd (show labOK p = true → ∀ q ∈ P.take (i + 1), labOK q = true from fun h q hq => by
        rw [TK.out] at hq
        rcases List.mem_append.1 hq with hq | hq
        · exact AL.out q hq
        · rw [List.mem_singleton] at hq; subst hq; exact h)
      have N8 := kd (show (decide (P.length = 4) && (P.take (i + 1)).all rnum) = (b8 && rnum p) by rw [TK.out, List.all_append, E8.out]; simp [Bool.and_assoc])
      have N9 := kd (show (P.take (i + 1)).any wordL = (b9 || wordL p) by rw [TK.out, List.any_append, ← E9.out]; simp)
      have LB := kd (fun w => rlabel_any (strOfNums p) w SZ)
      have NU := kd (fun w => rnumber_any (strOfNums p) w SZ)
      rw [byteL_str BP] at LB NU
      unfold labV at LB
      generalize labOK p = lo at *
      generalize wordL p = wo at *
      generalize rnum p = rn at *
      clear hp BP SZ TK
      cases lo with
      | false =>
        have E := kd (BD.out rfl)
        clear BD AN N8 N9
        go_wp2_with fail
        refine (LB.out _).mono ?_
        rintro _ _ ⟨rfl, rfl⟩
        go_wp2_with fail
        go_ret2
        exact ⟨E.out, bthen B1.out HB.out⟩
      | true =>
        have A2 := kd (AN.out rfl)
        clear BD AN
        cases b8 <;> cases b9
        all_goals
          go_wp2_with fail
          refine (LB.out _).mono ?_
          rintro _ _ ⟨rfl, rfl⟩
          have M8 := kd N8.out.symm
          have M9 := kd N9.out.symm
          clear N8 N9
          go_wp2_with (go_at_call 64; refine (NU.out _).mono ?_; rintro e w' ⟨rfl, rfl⟩)
          go_roundw
          case rel => exact ⟨i + 1, _, _, by omega, rfl, rfl, by go_num, M8, M9, A2, HB⟩
          case measure => simp [intOf]; omega
    · obtain rfl : i = P.length := by omega
      have hd2 : decide ((P.length : Int) < (P.length : Int)) = false := by simp
      have TK : P.take P.length = P := List.take_length
      have E := kd (DER.out b8 b9 (by have := AL.out; rw [TK] at this; exact this) (by have := E8.out; rw [TK] at this; exact this) (by have := E9.out; rw [TK] at this; exact this))
      clear TK AL E8 E9 DBR DER CB CZ
      by_cases h255 : s.size ≤ 255
      · have q2 : decide ((255 : Int) < (s.size : Int)) = false := by simp; omega
        cases b9 with
        | true =>
          have F := kd (HV1.out (strOfNums (lowS X)) _ (E.out.trans (if_pos ⟨h255, .inl rfl⟩)) rfl)
          clear E HV1 HV0
          go_wp2_with (go_at_call 65; refine (LW.out _).mono ?_; rintro e w' ⟨rfl, hb⟩; have B2 := kd hb; clear hb)
          go_ret2
          exact ⟨F.out, bthen B1.out (bthen HB.out B2.out)⟩
        | false =>
        cases b8 with
        | true =>
          have F := kd (HV1.out (strOfNums (lowS X)) _ (E.out.trans (if_pos ⟨h255, .inr rfl⟩)) rfl)
          clear E HV1 HV0
          go_wp2_with (go_at_call 65; refine (LW.out _).mono ?_; rintro e w' ⟨rfl, hb⟩; have B2 := kd hb; clear hb)
          go_ret2
          exact ⟨F.out, bthen B1.out (bthen HB.out B2.out)⟩
        | false =>
          have F := kd (HV0.out (E.out.trans (if_neg (by rintro ⟨_, h | h⟩ <;> cases h))))
          clear E HV1 HV0
          go_wp2_with fail
          go_ret2
          exact ⟨F.out, bthen B1.out HB.out⟩
      · have q2 : decide ((255 : Int) < (s.size : Int)) = true := by simp; omega
        have F := kd (HV0.out (E.out.trans (if_neg (fun h => h255 h.1))))
        clear E HV1 HV0
        go_wp2_with fail
        go_ret2
        exact ⟨F.out, bthen B1.out HB.out⟩
end Go.Proofs.YthfonniieaiocaaGreatDoor
