/- Contracts of lexis: Unquote. And what stands behind it. -/
import Derived.Test.YthfonniieaiocaaGreatDoorCc
import Derived.Test.YthfonniieaiocaaGreatDoorCa
import Derived.Outline
import Derived.Deep.LoopGhost
import Derived.Test.YthfonniieaiocaaGreatDoorCh
set_option linter.unusedVariables false
set_option linter.unusedSimpArgs false
set_option maxRecDepth 100000
namespace Go.Proofs.YthfonniieaiocaaGreatDoor
open Go.RowKit

section
variable {xs L : List Int} {i : Nat} {c : Int}
theorem U_end (h : xs.length ≤ i) : uqL (xs.drop i) i L = ([], i, 6) := by rw [List.drop_of_length_le h, uqL]
theorem U_q (h : i < xs.length) (hc : xs.getD i 0 = c) (h1 : c = 34) : uqL (xs.drop i) i L = (L, i + 1, 0) := by rw [drop_consI xs h, hc, uqL.eq_def]; exact if_pos h1
theorem U_e0 (h : i < xs.length) (hc : xs.getD i 0 = c) (h1 : c = 92) (h2 : i + 1 = xs.length) : uqL (xs.drop i) i L = ([], i + 1, 6) := by
  subst h1
  rw [drop_consI xs h, hc, List.drop_of_length_le (by omega), uqL, if_neg (by decide), if_pos rfl]
theorem U_e1 (h : i < xs.length) (hc : xs.getD i 0 = c) (h1 : c = 92) (h2 : i + 1 < xs.length) (h3 : 32 ≤ xs.getD (i + 1) 0 ∧ xs.getD (i + 1) 0 ≤ 126) : uqL (xs.drop i) i L = uqL (xs.drop (i + 2)) (i + 2) (L ++ [xs.getD (i + 1) 0]) := by
  subst h1
  rw [drop_consI xs h, hc, drop_consI xs h2, uqL, if_neg (by decide), if_pos rfl, if_pos h3]
theorem U_e2 (h : i < xs.length) (hc : xs.getD i 0 = c) (h1 : c = 92) (h2 : i + 1 < xs.length) (h3 : ¬ (32 ≤ xs.getD (i + 1) 0 ∧ xs.getD (i + 1) 0 ≤ 126)) : uqL (xs.drop i) i L = ([], i, 5) := by
  subst h1
  rw [drop_consI xs h, hc, drop_consI xs h2, uqL, if_neg (by decide), if_pos rfl, if_neg h3]
theorem U_c (h : i < xs.length) (hc : xs.getD i 0 = c) (h1 : c ≠ 34) (h2 : c ≠ 92) (h3 : isCtl c = true) : uqL (xs.drop i) i L = ([], i, 5) := by
  rw [drop_consI xs h, hc, uqL.eq_def]
  dsimp only
  rw [if_neg h1, if_neg h2, if_pos h3]
theorem U_p (h : i < xs.length) (hc : xs.getD i 0 = c) (h1 : c ≠ 34) (h2 : c ≠ 92) (h3 : isCtl c = false) : uqL (xs.drop i) i L = uqL (xs.drop (i + 1)) (i + 1) (L ++ [c]) := by
  rw [drop_consI xs h, hc]
  conv => lhs; rw [uqL.eq_def]
  dsimp only
  rw [if_neg h1, if_neg h2, if_neg (by rw [h3]; decide)]
end
def unqV (r : List Int × Nat × Int) : Value := .tuple #[.string (strOfNums r.1), .int .i64 (r.2.1 : Nat), .int .u8 r.2.2]
theorem unqV_no {r : List Int × Nat × Int} {n : Nat} {e : Int} (h : r = ([], n, e)) : unqV r = .tuple #[.string ⟨#[]⟩, .int .i64 (n : Nat), .int .u8 e] := by rw [h]; rfl
theorem unqV_ok {r : List Int × Nat × Int} {l : List Int} {n : Nat} {e : Int} (h : r = (l, n, e)) : unqV r = .tuple #[.string (strOfNums l), .int .i64 (n : Nat), .int .u8 e] := by rw [h]; rfl
theorem unq_bad {xs : List Int} {z : Int} (h : z < 0 ∨ (xs.length : Int) < z) : unq xs z = ([], 0, 2) := if_pos h
theorem unq_end {xs : List Int} {n : Nat} (h : n = xs.length) : unq xs n = ([], n, 5) := by
  unfold unq; rw [if_neg (by omega), if_pos (.inl (by omega))]; rfl
theorem unq_not {xs : List Int} {n : Nat} (h : n < xs.length) (h2 : xs.getD n 0 ≠ 34) : unq xs n = ([], n, 5) := by
  unfold unq; rw [if_neg (by omega), if_pos (.inr (by rw [Int.toNat_natCast]; exact h2))]; rfl
theorem unq_go {xs : List Int} {n : Nat} (h : n < xs.length) (h2 : xs.getD n 0 = 34) : unq xs n = uqL (xs.drop (n + 1)) (n + 1) [] := by
  unfold unq
  rw [if_neg (by omega), if_neg, Int.toNat_natCast]
  rintro (h3 | h3)
  · omega
  · exact h3 (by rw [Int.toNat_natCast]; exact h2)
def UR (w : World) (xs : List Int) (z : Int) (m : Nat) (v7 v8 : Value) (wr : World) : Prop := ∃ (i : Nat) (x : Value) (L : List Int), i ≤ m ∧ x = v7 ∧ v8 = .int .i64 i ∧ L.length ≤ i ∧ Hid (unq xs z = uqL (xs.drop i) i L ∧ OX w x L wr)
set_option maxHeartbeats 400000 in
theorem unquote_any (s : ByteArray) (z : Int) (w : World) (hz : -9223372036854775808 ≤ z ∧ z < 9223372036854775808) (hM : s.size ≤ 4000000) :
    Calls Tryz.prog 145 #[.string s, .int .i64 z] w fun e w' => e = .returned (unqV (unq (byteL s) z)) ∧ Below w.heap.size w w' := by
  have HB := kd (byteL_by s)
  have HL := kd (byteL_len s)
  have VN := kd (fun n e h => unqV_no (r := unq (byteL s) z) (n := n) (e := e) h)
  have VY := kd (fun l n e h => unqV_ok (r := unq (byteL s) z) (l := l) (n := n) (e := e) h)
  generalize hX : byteL s = X at *
  have HX := kd hX
  clear hX
  generalize unqV (unq X z) = RV at *
  rcases (show z < 0 ∨ (s.size : Int) < z ∨ (0 ≤ z ∧ z ≤ s.size) by omega) with h | h | ⟨h, h'⟩
  · have hd : decide (z < 0) = true := by simp [h]
    have BAD := kd (unq_bad (xs := X) (.inl h))
    clear hz
    go_enter Tryz.func145, Tryz.ntmps145
    go_wp2_with fail
    go_step3
    go_wp2_with fail
    try rw [Exit.noGoto_ret]
    go_ret3
    exact ⟨by rw [VN.out _ _ BAD.out]; rfl, Below.refl _ _⟩
  · have hd : decide (z < 0) = false := by simp; omega
    have hd2 : decide ((s.size : Int) < z) = true := by simp [h]
    have BAD := kd (unq_bad (xs := X) (z := z) (.inr (by rw [HL.out]; exact h)))
    clear hz
    go_enter Tryz.func145, Tryz.ntmps145
    go_wp2_with fail
    go_step3
    go_wp2_with fail
    try rw [Exit.noGoto_ret]
    go_ret3
    exact ⟨by rw [VN.out _ _ BAD.out]; rfl, Below.refl _ _⟩
  · obtain ⟨n, rfl⟩ := Int.eq_ofNat_of_zero_le h
    clear h hz
    have hn : n ≤ s.size := by omega
    clear h'
    have hd : decide ((n : Int) < 0) = false := by simp
    have hd2 : decide (s.size < n) = false := by simp; omega
    by_cases he : n = s.size
    · have BAD := kd (unq_end (xs := X) (n := n) (by rw [HL.out]; exact he))
      have hd3 : ((n : Int) == (s.size : Int)) = true := by simp; omega
      clear he
      go_enter Tryz.func145, Tryz.ntmps145
      go_wp2_with fail
      go_step3
      go_wp2_with fail
      try rw [Exit.noGoto_ret]
      go_ret3
      exact ⟨by rw [VN.out _ _ BAD.out]; rfl, Below.refl _ _⟩
    · have hlt : n < s.size := by omega
      have hd3 : ((n : Int) == (s.size : Int)) = false := by simp; omega
      clear he hn
      have d1 := fun w => idx_str s (i := n) hlt (z := (n : Int)) rfl w
      rw [HX.out] at d1
      have BAD := kd (fun h => unq_not (xs := X) (n := n) (by rw [HL.out]; exact hlt) h)
      have OK := kd (fun h => unq_go (xs := X) (n := n) (by rw [HL.out]; exact hlt) h)
      generalize X.getD n 0 = q at *
      by_cases hq : q = 34
      · subst hq
        go_enter Tryz.func145, Tryz.ntmps145
        go_wp2_with fail
        go_step3
        go_wp2_with fail
        go_step3
        go_wp2_with fail
        clear d1 hd hd2 hd3 BAD
        go_loopw [7, 8] (fun v7 v8 wr => UR w X n s.size v7 v8 wr) (fun _ v _ => s.size - (intOf v).toNat)
        case atStart => exact ⟨n + 1, _, [], by omega, rfl, by go_num, by simp, kd ⟨OK.out trivial, OX.nil w⟩⟩
        case round =>
          obtain ⟨i, x, L, hi, rfl, rfl, hL, H⟩ := hrel
          clear OK
          by_cases hil : i < s.size
          · have hd : decide ((i : Int) < (s.size : Int)) = true := by simp; omega
            have hdg : decide ((s.size : Int) ≤ (i : Int)) = false := by simp; omega
            have d1 := fun w => idx_str s (i := i) hil (z := (i : Int)) rfl w
            have hx2 := HB.out _ (getD_mem (l := X) (i := i) (by rw [HL.out]; exact hil))
            rw [HX.out] at d1
            have hil' : i < X.length := by rw [HL.out]; exact hil
            have UQ := kd (fun c hc h => U_q (xs := X) (L := L) (i := i) (c := c) hil' hc h)
            have UE0 := kd (fun c hc h h2 => U_e0 (xs := X) (L := L) (i := i) (c := c) hil' hc h h2)
            have UE1 := kd (fun c hc h h2 h3 => U_e1 (xs := X) (L := L) (i := i) (c := c) hil' hc h h2 h3)
            have UE2 := kd (fun c hc h h2 h3 => U_e2 (xs := X) (L := L) (i := i) (c := c) hil' hc h h2 h3)
            have UC := kd (fun c hc h h2 h3 => U_c (xs := X) (L := L) (i := i) (c := c) hil' hc h h2 h3)
            have UP := kd (fun c hc h h2 h3 => U_p (xs := X) (L := L) (i := i) (c := c) hil' hc h h2 h3)
            clear hil'
            generalize hcq : X.getD i 0 = c at *
            have CE := kd hcq
            clear hcq
            by_cases h34 : c = 34
            · subst h34
              have cv := conv_owned H.out.2.o
              go_wp2_with fail
              try rw [Exit.noGoto_ret]
              go_ret3
              exact ⟨by rw [VY.out _ _ _ (H.out.1.trans (UQ.out 34 rfl rfl))]; rfl, H.out.2.bw⟩
            · have b34 : (c == 34) = false := by simp; omega
              by_cases h92 : c = 92
              · subst h92
                clear b34 h34
                by_cases hl2 : i + 1 < s.size
                · have e1 : ((i : Int) + 1 == (s.size : Int)) = false := by simp; omega
                  have d2 := fun w => idx_str s (i := i + 1) hl2 (z := (i : Int) + 1) (by omega) w
                  have hy2 := HB.out _ (getD_mem (l := X) (i := i + 1) (by rw [HL.out]; exact hl2))
                  rw [HX.out] at d2
                  have hl2' : i + 1 < X.length := by rw [HL.out]; exact hl2
                  have E1 := kd (fun h3 => UE1.out 92 rfl rfl hl2' h3)
                  have E2 := kd (fun h3 => UE2.out 92 rfl rfl hl2' h3)
                  clear hl2'
                  generalize X.getD (i + 1) 0 = d at *
                  by_cases hesc : 32 ≤ d ∧ d ≤ 126
                  · have hde : decide (32 ≤ d ∧ d ≤ 126) = true := by simp [hesc]
                    go_wp2_with fail
                    refine (escaped_any d _ hy2.1 hy2.2).mono ?_
                    rintro e w' ⟨rfl, rfl⟩
                    rw [hde]
                    clear hde
                    go_wp2_with (with_reducible refine wpList_push1 rfl (.tmp 64) (.tmp 68) rfl x L rfl H.out.2 d rfl (by omega) ?_)
                    intro v3 w3 L3 F3 l3 M3
                    go_wp2_with fail
                    have HH := kd (show unq X n = uqL (X.drop (i + 2)) (i + 2) L3 from by rw [F3.out, H.out.1]; exact E1.out hesc)
                    go_roundw
                    case rel => exact ⟨i + 2, v3, L3, by omega, rfl, by go_num, by omega, kd ⟨HH.out, M3.out⟩⟩
                    case measure => simp [intOf]; omega
                  · have hde : decide (32 ≤ d ∧ d ≤ 126) = false := by simp only [decide_eq_false_iff_not]; exact hesc
                    go_wp2_with fail
                    refine (escaped_any d _ hy2.1 hy2.2).mono ?_
                    rintro e w' ⟨rfl, rfl⟩
                    rw [hde]
                    clear hde
                    go_wp2_with fail
                    try rw [Exit.noGoto_ret]
                    go_ret3
                    exact ⟨by rw [VN.out _ _ (H.out.1.trans (E2.out hesc))]; rfl, H.out.2.bw⟩
                · have e1 : ((i : Int) + 1 == (s.size : Int)) = true := by simp; omega
                  have E0 := kd (UE0.out 92 rfl rfl (by rw [HL.out]; omega))
                  have SZ := kd (show i + 1 = s.size by omega)
                  go_wp2_with fail
                  try rw [Exit.noGoto_ret]
                  go_ret3
                  exact ⟨by rw [VN.out _ _ (H.out.1.trans E0.out), SZ.out]; rfl, H.out.2.bw⟩
              · have b92 : (c == 92) = false := by simp; omega
                go_wp2_with fail
                refine (control_any c _ hx2.1 hx2.2).mono ?_
                rintro e w' ⟨rfl, rfl⟩
                cases hp : isCtl c with
                | true =>
                  have E := kd (UC.out c rfl h34 h92 hp)
                  clear hp
                  go_wp2_with fail
                  try rw [Exit.noGoto_ret]
                  go_ret3
                  exact ⟨by rw [VN.out _ _ (H.out.1.trans E.out)]; rfl, H.out.2.bw⟩
                | false =>
                  have E := kd (UP.out c rfl h34 h92 hp)
                  clear hp
                  go_wp2_with (with_reducible refine wpList_push1 rfl (.tmp 64) (.tmp 68) rfl x L rfl H.out.2 c rfl (by omega) ?_)
                  intro v3 w3 L3 F3 l3 M3
                  go_wp2_with fail
                  go_roundw
                  case rel => exact ⟨i + 1, v3, L3, by omega, rfl, by go_num, by omega, kd ⟨by rw [F3.out, H.out.1]; exact E.out, M3.out⟩⟩
                  case measure => simp [intOf]; omega
          · obtain rfl : i = s.size := by omega
            have E := kd (U_end (xs := X) (L := L) (i := s.size) (by rw [HL.out]; exact Nat.le_refl _))
            go_wp2_with fail
            try rw [Exit.noGoto_ret]
            go_ret3
            exact ⟨by rw [VN.out _ _ (H.out.1.trans E.out)]; rfl, H.out.2.bw⟩
      · have b34 : (q != 34) = true := by simp; omega
        go_enter Tryz.func145, Tryz.ntmps145
        go_wp2_with fail
        go_step3
        go_wp2_with fail
        try rw [Exit.noGoto_ret]
        go_ret3
        exact ⟨by rw [VN.out _ _ (BAD.out hq)]; rfl, Below.refl _ _⟩

theorem OX.one (w : World) (x : Int) : OX w (.slice (some ⟨w.heap.size, 0, none⟩) 1 1) [x] (w.alloc (.cells #[.int .u8 x] 5)) :=
  ⟨⟨rfl, .inr ⟨_, 1, _, rfl, Nat.le_refl _, heap_alloc_new w _, Nat.le_refl _, by unfold maxLen; omega, by simp, by simp [U8]⟩⟩, (Below.refl _ _).alloc (Nat.le_refl _) _⟩
theorem refquote_any (s : ByteArray) (w : World) (hM : s.size ≤ 4000000) :
    Calls Tryz.prog 112 #[.string s] w fun e w' => e = .returned (quoteV (byteL s)) ∧ Below w.heap.size w w' := by
  have HB := kd (byteL_by s)
  have HL := kd (byteL_len s)
  have QY := kd (fun h => quoteV_yes (xs := byteL s) h)
  have QN := kd (fun h => quoteV_no (xs := byteL s) h)
  generalize quoteV (byteL s) = QV at *
  generalize hX : byteL s = X at *
  have HX := kd hX
  clear hX
  go_enter Tryz.func112, Tryz.ntmps112
  go_wp2_with fail
  have M1 := kd (OX.one w 34)
  go_loopw [4, 5] (fun v v16 wr => QR w X s.size v v16 wr) (fun _ v _ => s.size - (intOf v).toNat)
  case atStart => exact ⟨0, _, [34], Nat.zero_le _, rfl, rfl, by simp, kd ⟨rfl, M1.out, fun j hj => absurd hj (by omega)⟩⟩
  case round =>
    clear M1
    obtain ⟨k, x, L, hk, rfl, rfl, hL, H⟩ := hrel
    by_cases hlt : k < s.size
    · have hd : decide ((k : Int) < (s.size : Int)) = true := by simp; omega
      have d1 := fun w => idx_str s (i := k) hlt (z := (k : Int)) rfl w
      have hx2 := HB.out _ (getD_mem (l := X) (i := k) (by rw [HL.out]; exact hlt))
      rw [HX.out] at d1
      have CN := kd (fun h => clean_no (xs := X) (k := k) (by rw [HL.out]; exact hlt) h)
      have TS := kd (take_snocI X (k := k) (by rw [HL.out]; exact hlt))
      have NX := kd (show isCtl (X.getD k 0) = false → ∀ j, j < k + 1 → isCtl (X.getD j 0) = false from fun h j hj => by
        rcases (show j < k ∨ j = k by omega) with h1 | rfl
        · exact H.out.2.2 j h1
        · exact h)
      generalize X.getD k 0 = c at *
      go_wp2_with fail
      refine (refcontrol_any c _ hx2.1 hx2.2).mono ?_
      rintro e w' ⟨rfl, rfl⟩
      cases hp : isCtl c with
      | true =>
        go_wp2_with fail
        go_ret2
        exact ⟨by rw [QN.out (CN.out hp)]; rfl, H.out.2.1.bw⟩
      | false =>
        have PP := kd hp
        clear hp
        by_cases h34 : c = 34 ∨ c = 92
        · have EC := kd (show escC c = [92, c] from if_pos h34)
          have hb : (c == 34) = true ∨ ((c == 34) = false ∧ (c == 92) = true) := by
            rcases h34 with rfl | rfl
            · exact .inl rfl
            · exact .inr ⟨rfl, rfl⟩
          clear h34
          rcases hb with hb | ⟨hb, hb2⟩
          all_goals
            go_wp2_with (with_reducible refine wpList_push1 rfl (.tmp 27) (.tmp 28) rfl x L rfl H.out.2.1 92 rfl (by omega) ?_)
            intro v2 w2 L2 E2 l2 M2
            go_wp2_with (with_reducible refine wpList_push1 rfl (.tmp 30) (.tmp 34) rfl v2 L2 rfl M2.out c rfl (by omega) ?_)
            intro v3 w3 L3 E3 l3 M3
            go_wp2_with fail
            go_roundw
            case rel => exact ⟨k + 1, v3, L3, by omega, rfl, by go_num, by omega, kd ⟨by rw [E3.out, E2.out, TS.out, escL_snoc, EC.out, H.out.1]; simp, M3.out, NX.out PP.out⟩⟩
            case measure => simp [intOf]; omega
        · have EC := kd (show escC c = [c] from if_neg h34)
          have hb : (c == 34) = false := by simp; omega
          have hb2 : (c == 92) = false := by simp; omega
          clear h34
          go_wp2_with (with_reducible refine wpList_push1 rfl (.tmp 30) (.tmp 34) rfl x L rfl H.out.2.1 c rfl (by omega) ?_)
          intro v3 w3 L3 E3 l3 M3
          go_wp2_with fail
          go_roundw
          case rel => exact ⟨k + 1, v3, L3, by omega, rfl, by go_num, by omega, kd ⟨by rw [E3.out, TS.out, escL_snoc, EC.out, H.out.1]; simp, M3.out, NX.out PP.out⟩⟩
          case measure => simp [intOf]; omega
    · obtain rfl : k = s.size := by omega
      have CA := kd (clean_all (xs := X) (fun j hj => H.out.2.2 j (by rw [HL.out] at hj; exact hj)))
      have LE := kd (show L = 34 :: escL X by rw [H.out.1, List.take_of_length_le (by rw [HL.out]; exact Nat.le_refl _)])
      go_wp2_with (with_reducible refine wpList_push1 rfl (.tmp 36) (.tmp 37) rfl x L rfl H.out.2.1 34 rfl (by omega) ?_)
      intro v3 w3 L3 E3 l3 M3
      have cv := conv_owned M3.out.o
      go_wp2_with fail
      go_ret2
      exact ⟨by rw [QY.out CA.out, E3.out, LE.out]; rfl, M3.out.bw⟩

section
variable {xs : List Int} {f i b : Nat} {acc : List (Nat × List Int)} {c : Int}
end
theorem unquote_b (s : ByteArray) (i : Nat) (U : List Int × Nat × Int) (w : World) (hU : unq (byteL s) i = U) (hi : i ≤ s.size) (hs : s.size ≤ 4000000) :
    Calls Tryz.prog 145 #[.string s, .int .i64 i] w fun e w' => e = .returned (.tuple #[.string (strOfNums U.1), .int .i64 (U.2.1 : Nat), .int .u8 U.2.2]) ∧ Below w.heap.size w w' := by
  subst hU; exact unquote_any s i w (by omega) hs

theorem take_extract (s : ByteArray) (k : Nat) : byteL (s.extract 0 k) = (byteL s).take k := by rw [byteL_extract, List.drop_zero, Nat.sub_zero]
theorem drop_extract (s : ByteArray) (k : Nat) : byteL (s.extract k s.size) = (byteL s).drop k := by
  rw [byteL_extract, List.take_of_length_le (by rw [List.length_drop, byteL_len]; exact Nat.le_refl _)]
theorem clipN {k n : Nat} (h : k ≤ n) : clip (k : Int) n = k := by unfold clip; omega
theorem blanksN (s : ByteArray) (z : Int) (n : Nat) (w : World) (k : Nat) (hz : z = n) (hn : n ≤ s.size) (hk : skipTo isBlank (byteL s) n = k) (hs : s.size ≤ 4000000) :
    Calls Tryz.prog 144 #[.string s, .int .i64 z] w fun e w' => e = .returned (.int .i64 (k : Nat)) ∧ Below w.heap.size w w' := by
  subst hk; subst hz
  have h := blanks_any s n w (by omega) (by omega)
  rw [clipN hn] at h
  exact h
end Go.Proofs.YthfonniieaiocaaGreatDoor
