/- Contracts of the reference 01: Unquote. -/
import Derived.Test.YtfhbpgickkibmaaGreatDoorCf
namespace Go.Proofs.YtfhbpgickkibmaaGreatDoor
open Go.RowKit

theorem ctl_not {c : Int} (h : isCtl c = true) : c ≠ 34 ∧ c ≠ 92 := ⟨(fun e => by subst e; cases h), (fun e => by subst e; cases h)⟩
theorem opens_bad {xs : List Int} {z c : Int} (h : z < 0 ∨ (xs.length : Int) < z) : opensR xs z c = (0, 2) := if_pos h
theorem opens_end {xs : List Int} {n : Nat} {c : Int} (h : n = xs.length) : opensR xs n c = ((n : Int), 5) := by
  unfold opensR; rw [if_neg (by omega), if_pos (.inl (by omega))]
theorem opens_not {xs : List Int} {n : Nat} {c : Int} (h : n < xs.length) (h2 : xs.getD n 0 ≠ c) : opensR xs n c = ((n : Int), 5) := by
  unfold opensR; rw [if_neg (by omega), if_pos (.inr (by rw [Int.toNat_natCast]; exact h2))]
theorem opens_go {xs : List Int} {n : Nat} {c : Int} (h : n < xs.length) (h2 : xs.getD n 0 = c) : opensR xs n c = (0, 0) := by
  unfold opensR
  rw [if_neg (by omega), if_neg]
  rintro (h3 | h3)
  · omega
  · exact h3 (by rw [Int.toNat_natCast]; exact h2)
set_option maxRecDepth 100000 in
set_option maxHeartbeats 400000 in
theorem refunquote_any (s : ByteArray) (z : Int) (w : World) (hz : -9223372036854775808 ≤ z ∧ z < 9223372036854775808) (hM : s.size ≤ 4000000) :
    Calls Tryz.prog 109 #[.string s, .int .i64 z] w fun e w' => e = .returned (unqV (unq (byteL s) z)) ∧ Below w.heap.size w w' := by
  have HB := Lib.hid (byteL_by s)
  have HL := Lib.hid (byteL_len s)
  have VN := Lib.hid (fun n e h => unqV_no (r := unq (byteL s) z) (n := n) (e := e) h)
  have VY := Lib.hid (fun l n e h => unqV_ok (r := unq (byteL s) z) (l := l) (n := n) (e := e) h)
  generalize hX : byteL s = X at *
  have HX := Lib.hid hX
  clear hX
  generalize unqV (unq X z) = RV at *
  rcases (show z < 0 ∨ (s.size : Int) < z ∨ (0 ≤ z ∧ z ≤ s.size) by omega) with h | h | ⟨h, h'⟩
  · have BAD := Lib.hid (unq_bad (xs := X) (.inl h))
    have RE := Lib.hid (opens_bad (xs := X) (c := 34) (.inl h))
    have HZ := Lib.hid hz
    clear hz
    go_enter Tryz.func109, Tryz.ntmps109
    go_wp2_with fail
    refine (opens_any s z 34 _ HZ.out).mono ?_
    rintro e w' ⟨rfl, rfl⟩
    rw [HX.out, RE.out]
    go_wp2_with fail
    go_ret3
    exact ⟨by rw [VN.out _ _ BAD.out]; rfl, Below.refl _ _⟩
  · have BAD := Lib.hid (unq_bad (xs := X) (z := z) (.inr (by rw [HL.out]; exact h)))
    have RE := Lib.hid (opens_bad (xs := X) (z := z) (c := 34) (.inr (by rw [HL.out]; exact h)))
    have HZ := Lib.hid hz
    clear hz
    go_enter Tryz.func109, Tryz.ntmps109
    go_wp2_with fail
    refine (opens_any s z 34 _ HZ.out).mono ?_
    rintro e w' ⟨rfl, rfl⟩
    rw [HX.out, RE.out]
    go_wp2_with fail
    go_ret3
    exact ⟨by rw [VN.out _ _ BAD.out]; rfl, Below.refl _ _⟩
  · obtain ⟨n, rfl⟩ := Int.eq_ofNat_of_zero_le h
    clear h hz
    have hn : n ≤ s.size := by omega
    clear h'
    by_cases he : n = s.size
    · have BAD := Lib.hid (unq_end (xs := X) (n := n) (by rw [HL.out]; exact he))
      have RE := Lib.hid (opens_end (xs := X) (n := n) (c := 34) (by rw [HL.out]; exact he))
      clear he
      go_enter Tryz.func109, Tryz.ntmps109
      go_wp2_with fail
      refine (opens_any s n 34 _ (by omega)).mono ?_
      rintro e w' ⟨rfl, rfl⟩
      rw [HX.out, RE.out]
      go_wp2_with fail
      go_ret3
      exact ⟨by rw [VN.out _ _ BAD.out]; rfl, Below.refl _ _⟩
    · have hlt : n < s.size := by omega
      clear he hn
      have BAD := Lib.hid (fun h => unq_not (xs := X) (n := n) (by rw [HL.out]; exact hlt) h)
      have OK := Lib.hid (fun h => unq_go (xs := X) (n := n) (by rw [HL.out]; exact hlt) h)
      have RN := Lib.hid (fun h => opens_not (xs := X) (n := n) (c := 34) (by rw [HL.out]; exact hlt) h)
      have RY := Lib.hid (fun h => opens_go (xs := X) (n := n) (c := 34) (by rw [HL.out]; exact hlt) h)
      generalize X.getD n 0 = q at *
      by_cases hq : q = 34
      · have OK1 := Lib.hid (OK.out hq)
        have RE := Lib.hid (RY.out hq)
        clear hq OK RY RN BAD
        go_enter Tryz.func109, Tryz.ntmps109
        go_wp2_with fail
        refine (opens_any s n 34 _ (by omega)).mono ?_
        rintro e w' ⟨rfl, rfl⟩
        rw [HX.out, RE.out]
        go_wp2_with fail
        clear RE
        go_loopw [9, 10] (fun v7 v8 wr => UR w X n s.size v7 v8 wr) (fun _ v _ => s.size + 1 - (intOf v).toNat)
        case atStart => exact ⟨n + 1, _, [], by omega, rfl, by go_num, by simp, Lib.hid ⟨OK1.out, OX.nil w⟩⟩
        case round =>
          obtain ⟨i, x, L, hi, rfl, rfl, hL, H⟩ := hrel
          clear OK1
          go_wp2_with fail
          refine (step_any s i _ hi hM).mono ?_
          rintro e w' ⟨⟨r, hs, rfl⟩, rfl⟩
          rw [HX.out] at hs
          have UN := Lib.hid (U_end (xs := X) (L := L) (i := i))
          have UQ := Lib.hid (fun h hc => U_q (xs := X) (L := L) (i := i) (c := X.getD i 0) h rfl hc)
          have UE0 := Lib.hid (fun h hc h2 => U_e0 (xs := X) (L := L) (i := i) (c := X.getD i 0) h rfl hc h2)
          have UE1 := Lib.hid (fun h hc h2 h3 => U_e1 (xs := X) (L := L) (i := i) (c := X.getD i 0) h rfl hc h2 h3)
          have UE2 := Lib.hid (fun h hc h2 h3 => U_e2 (xs := X) (L := L) (i := i) (c := X.getD i 0) h rfl hc h2 h3)
          have UC := Lib.hid (fun h h1 h2 h3 => U_c (xs := X) (L := L) (i := i) (c := X.getD i 0) h rfl h1 h2 h3)
          have UP := Lib.hid (fun h h1 h2 h3 => U_p (xs := X) (L := L) (i := i) (c := X.getD i 0) h rfl h1 h2 h3)
          rcases hs with ⟨hge, rfl⟩ | ⟨hlt2, ⟨hc, rfl⟩ | ⟨hc, ⟨h92, rfl⟩ | ⟨h92, ⟨hl2, rfl⟩ | ⟨hl2, ⟨h3, rfl⟩ | ⟨h3, rfl⟩⟩⟩⟩⟩
          · have E := Lib.hid (UN.out hge)
            have SZ := Lib.hid (show i = X.length by have := HL.out; omega)
            clear hge
            go_wp2_with fail
            go_ret3
            exact ⟨by rw [VN.out _ _ (H.out.1.trans E.out), SZ.out]; rfl, H.out.2.bw⟩
          · have E := Lib.hid (UC.out hlt2 (ctl_not hc).1 (ctl_not hc).2 hc)
            clear hc hlt2
            go_wp2_with fail
            go_ret3
            exact ⟨by rw [VN.out _ _ (H.out.1.trans E.out)]; rfl, H.out.2.bw⟩
          · have hil : i < s.size := by rw [← HL.out]; exact hlt2
            have d1 := fun w => idx_str s (i := i) hil (z := (i : Int)) rfl w
            rw [HX.out] at d1
            by_cases h34 : X.getD i 0 = 34
            · have E := Lib.hid (UQ.out hlt2 h34)
              rw [h34] at d1
              clear hlt2 hc h92 h34
              have cv := conv_owned H.out.2.o
              go_wp2_with fail
              go_ret3
              exact ⟨by rw [VY.out _ _ _ (H.out.1.trans E.out)]; rfl, H.out.2.bw⟩
            · have E := Lib.hid (UP.out hlt2 h34 h92 hc)
              have hb : (X.getD i 0 == 34) = false := by simpa using h34
              clear hlt2 hc h92 h34 UN UQ UE0 UE1 UE2 UC UP
              generalize X.getD i 0 = c at *
              go_wp2_with (with_reducible refine wpList_push1 rfl (.tmp 49) (.tmp 56) rfl x L rfl H.out.2 c rfl (by omega) ?_)
              intro v3 w3 L3 F3 l3 M3
              go_wp2_with fail
              have HH := Lib.hid (show unq X n = uqL (X.drop (i + 1)) (i + 1) L3 from by rw [F3.out, H.out.1]; exact E.out)
              go_roundw
              case rel => exact ⟨i + 1, v3, L3, by omega, rfl, by go_num, by omega, Lib.hid ⟨HH.out, M3.out⟩⟩
              case measure => simp [intOf]; omega
          · have E := Lib.hid (UE0.out hlt2 h92 hl2)
            have SZ := Lib.hid hl2
            clear hlt2 hc h92 hl2
            go_wp2_with fail
            go_ret3
            exact ⟨by rw [VN.out _ _ (H.out.1.trans E.out), SZ.out]; rfl, H.out.2.bw⟩
          · have E := Lib.hid (UE2.out hlt2 h92 hl2 h3)
            clear hlt2 hc h92 hl2 h3
            go_wp2_with fail
            go_ret3
            exact ⟨by rw [VN.out _ _ (H.out.1.trans E.out)]; rfl, H.out.2.bw⟩
          · have E := Lib.hid (UE1.out hlt2 h92 hl2 h3)
            have hil : i + 1 < s.size := by rw [← HL.out]; exact hl2
            have d1 := fun w => idx_str s (i := i + 1) hil (z := (i : Int) + 1) (by omega) w
            rw [HX.out] at d1
            clear hlt2 hc h92 hl2 h3 UN UQ UE0 UE1 UE2 UC UP
            generalize X.getD (i + 1) 0 = c at *
            have v1 : IntKind.i64.wrap ((i : Int) + 2 - 1) = (i : Int) + 1 := by rw [IntWalk.i64_in _ (by omega)]; omega
            go_wp2_with (with_reducible refine wpList_push1 rfl (.tmp 49) (.tmp 56) rfl x L rfl H.out.2 c rfl (by omega) ?_)
            intro v3 w3 L3 F3 l3 M3
            go_wp2_with fail
            have HH := Lib.hid (show unq X n = uqL (X.drop (i + 2)) (i + 2) L3 from by rw [F3.out, H.out.1]; exact E.out)
            go_roundw
            case rel => exact ⟨i + 2, v3, L3, by omega, rfl, by go_num, by omega, Lib.hid ⟨HH.out, M3.out⟩⟩
            case measure => simp [intOf]; omega
      · have BAD1 := Lib.hid (BAD.out hq)
        have RE := Lib.hid (RN.out hq)
        clear hq OK RY RN BAD
        go_enter Tryz.func109, Tryz.ntmps109
        go_wp2_with fail
        refine (opens_any s n 34 _ (by omega)).mono ?_
        rintro e w' ⟨rfl, rfl⟩
        rw [HX.out, RE.out]
        go_wp2_with fail
        go_ret3
        exact ⟨by rw [VN.out _ _ BAD1.out]; rfl, Below.refl _ _⟩
end Go.Proofs.YtfhbpgickkibmaaGreatDoor
