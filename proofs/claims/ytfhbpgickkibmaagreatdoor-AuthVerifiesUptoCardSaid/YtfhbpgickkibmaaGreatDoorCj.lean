/- Contract: the reference 01's Split, at a comma. -/
import Derived.Test.YtfhbpgickkibmaaGreatDoorCi
namespace Go.Proofs.YtfhbpgickkibmaaGreatDoor
open Go.RowKit

set_option maxRecDepth 100000 in
set_option maxHeartbeats 1000000 in
theorem refsplitP_any (s : ByteArray) (w : World) (hs : s.size ≤ 4000000) : Calls Tryz.prog 81 #[.string s, .int .u8 44] w (SplR (byteL s) w) := by
  have HB := Lib.hid (byteL_by s)
  have HL := Lib.hid (byteL_len s)
  have BAD := Lib.hid (fun wr n k h hb => SplR.bad (xs := byteL s) (w := w) (wr := wr) (n := n) (k := k) h hb)
  have OK := Lib.hid (fun wr L v h hp => SplR.ok (xs := byteL s) (w := w) (wr := wr) (L := L) (v := v) h hp)
  have GO := Lib.hid (split_go (byteL s))
  have US := Lib.hid (fun (i : Nat) (h : i ≤ s.size) => unq_pos (xs := byteL s) (i := i) (by rw [byteL_len]; exact h))
  generalize SplR (byteL s) w = PP at *
  generalize hX : byteL s = X at *
  have HX := Lib.hid hX
  clear hX
  go_enter Tryz.func81, Tryz.ntmps81
  go_wp2_with fail
  refine (refblank_any 44 _ (by omega) (by omega)).mono ?_
  rintro e w' ⟨rfl, rfl⟩
  rw [show isBlank 44 = false from rfl]
  go_wp2_with fail
  go_loopw [7, 8, 9] (fun v7 v8 v9 wr => SLR w X s.size v7 v8 v9 wr) (fun _ _ v _ => s.size - (intOf v).toNat)
  case atStart => exact ⟨0, 0, s.size + 1, _, [], Nat.zero_le _, Nat.le_refl _, rfl, rfl, rfl, Nat.le_refl _, Nat.le_refl _, Lib.hid ⟨by rw [GO.out, HL.out], VX.nil _ _ _⟩⟩
  case round =>
    clear GO
    obtain ⟨i, b, f, x, ps, hi, hbi, rfl, rfl, rfl, hps, hf, H⟩ := hrel
    obtain ⟨f, rfl⟩ : ∃ g, f = g + 1 := ⟨f - 1, by omega⟩
    by_cases hlt : i < s.size
    · have hd : decide ((i : Int) < (s.size : Int)) = true := by simp; omega
      have d1 := fun w => idx_str s (i := i) hlt (z := (i : Int)) rfl w
      rw [HX.out] at d1
      have hlt' : i < X.length := by rw [HL.out]; exact hlt
      have SQE := Lib.hid (fun h1 h2 => H.out.1.trans (S_qe (b := b) (f := f) (acc := ps) hlt' rfl h1 h2))
      have SQO := Lib.hid (fun h1 h2 => H.out.1.trans (S_qo (b := b) (f := f) (acc := ps) hlt' rfl h1 h2))
      have SLE := Lib.hid (fun h1 h2 => H.out.1.trans (S_le (b := b) (f := f) (acc := ps) hlt' rfl h1 h2))
      have SLO := Lib.hid (fun h1 h2 => H.out.1.trans (S_lo (b := b) (f := f) (acc := ps) hlt' rfl h1 h2))
      have SG := Lib.hid (fun h1 => H.out.1.trans (S_g (b := b) (f := f) (acc := ps) hlt' rfl h1))
      have SS := Lib.hid (fun h1 => H.out.1.trans (S_s (b := b) (f := f) (acc := ps) hlt' rfl h1))
      have SO := Lib.hid (fun h1 h2 h3 h4 => H.out.1.trans (S_o (b := b) (f := f) (acc := ps) hlt' rfl h1 h2 h3 h4))
      clear hlt'
      generalize X.getD i 0 = c at *
      by_cases h34 : c = 34
      · subst h34
        have SQE1 := Lib.hid (SQE.out rfl)
        have SQO1 := Lib.hid (SQO.out rfl)
        clear SQE SQO SLE SLO SG SS SO
        have UP := US.out i hi
        generalize hU : unq X i = U at *
        have HU := Lib.hid hU
        clear hU
        obtain ⟨u1, u2, u3⟩ := U
        go_wp2_with fail
        refine (refunquote_b s i (u1, u2, u3) _ (by rw [HX.out, HU.out]) hi hs).mono ?_
        rintro e w1 ⟨rfl, hb1⟩
        have H1 := Lib.hid (H.out.2.step hb1)
        clear hb1
        by_cases he : u3 = 0
        · subst he
          have E := Lib.hid (SQO1.out rfl)
          have p1 : u2 ≤ s.size := by have h1 : u2 ≤ X.length := UP.1; have h2 := HL.out; omega
          have p2 : i < u2 := UP.2 rfl
          clear UP SQE1 SQO1
          go_wp2_with fail
          go_roundw
          case rel => exact ⟨u2, b, f, x, ps, p1, by omega, rfl, rfl, rfl, by omega, by omega, Lib.hid ⟨E.out, H1.out⟩⟩
          case measure => simp [intOf]; omega
        · have hb : (u3 != 0) = true := by simpa using he
          have E := Lib.hid (SQE1.out he)
          clear UP SQE1 SQO1 he
          go_wp2_with fail
          go_ret3
          exact BAD.out _ _ _ E.out H1.out.bw
      · have b34 : (c == 34) = false := by simpa using h34
        by_cases h60 : c = 60
        · subst h60
          have SLE1 := Lib.hid (SLE.out rfl)
          have SLO1 := Lib.hid (SLO.out rfl)
          clear SQE SQO SLE SLO SG SS SO b34 h34
          have SKE := Lib.hid (fun (k : Nat) (h : k < s.size) => skip_yes (p := fun x => x != 62) (xs := X) (i := k) (by rw [HL.out]; exact h))
          have SKN := Lib.hid (fun (k : Nat) (h : k < s.size) => skip_no (p := fun x => x != 62) (xs := X) (i := k) (by rw [HL.out]; exact h))
          have SKZ := Lib.hid (skip_end (p := fun x => x != 62) (xs := X) (i := s.size) (by rw [HL.out]; exact Nat.le_refl _))
          go_wp2_with fail
          clear d1 hd
          go_loopw [9] (fun v wq => ∃ k : Nat, i ≤ k ∧ k ≤ s.size ∧ v = .int .i64 k ∧ wr = wq ∧ Hid (skipTo (fun x => x != 62) X i = skipTo (fun x => x != 62) X k)) (fun v _ => s.size - (intOf v).toNat)
          case atStart => exact ⟨i, Nat.le_refl _, hi, rfl, rfl, Lib.hid rfl⟩
          case round =>
            obtain ⟨k, hik, hk, rfl, rfl, HK⟩ := hrel
            by_cases hkl : k < s.size
            · have hd : decide ((k : Int) < (s.size : Int)) = true := by simp; omega
              have d1 := fun w => idx_str s (i := k) hkl (z := (k : Int)) rfl w
              rw [HX.out] at d1
              have SKE1 := Lib.hid (SKE.out k hkl)
              have SKN1 := Lib.hid (SKN.out k hkl)
              generalize X.getD k 0 = y at *
              by_cases hy : y = 62
              · have hb : (y != 62) = false := by simp [hy]
                have K3 := Lib.hid (HK.out.trans (SKN1.out hb))
                have E := Lib.hid (SLO1.out (by rw [K3.out, HL.out]; omega))
                have hks : ((k : Int) == (s.size : Int)) = false := by simp; omega
                subst hy
                clear hb SKE1 SKN1
                go_wp2_with fail
                go_roundw
                case rel => exact ⟨k + 1, b, f, x, ps, by omega, by omega, rfl, rfl, by go_num, by omega, by omega, Lib.hid ⟨by rw [E.out, K3.out], H.out.2⟩⟩
                case measure => simp [intOf]; omega
              · have hb : (y != 62) = true := by simp [hy]
                have K3 := Lib.hid (HK.out.trans (SKE1.out hb))
                go_wp2_with fail
                go_roundw
                case rel => exact ⟨k + 1, by omega, by omega, by go_num, by trivial, Lib.hid K3.out⟩
                case measure => simp [intOf]; omega
            · obtain rfl : k = s.size := by omega
              have E := Lib.hid (SLE1.out (by rw [HK.out, SKZ.out, HL.out]; exact Nat.le_refl _))
              have hd : decide (s.size < s.size) = false := by simp
              have hks : ((s.size : Int) == (s.size : Int)) = true := by simp
              go_wp2_with fail
              go_ret3
              exact BAD.out _ s.size _ (by rw [E.out, HL.out]) H.out.2.bw
        · have b60 : (c == 60) = false := by simpa using h60
          by_cases h62 : c = 62
          · have E := Lib.hid (SG.out h62)
            subst h62
            clear SQE SQO SLE SLO SG SS SO b34 h34 b60 h60
            go_wp2_with fail
            go_ret3
            exact BAD.out _ _ _ E.out H.out.2.bw
          · have b62 : (c == 62) = false := by simpa using h62
            by_cases h44 : c = 44
            · have E := Lib.hid (SS.out h44)
              subst h44
              clear SQE SQO SLE SLO SG SS SO b34 h34 b60 h60 b62 h62
              obtain ⟨R, hR⟩ : ∃ R, pieceOf X b i = R := ⟨_, rfl⟩
              have RE := Lib.hid hR
              clear hR
              go_wp2_with fail
              refine (refpiece_b s b i R _ (by rw [HX.out, RE.out]) hbi hi hs).mono ?_
              rintro e w1 ⟨rfl, hb1⟩
              have H1 := Lib.hid (H.out.2.step hb1)
              clear hb1
              go_wp2_with (with_reducible refine wpList_pushP rfl (.tmp 39) (.tmp 44) rfl x ps rfl H1.out R rfl (by omega) ?_)
              intro v3 w3 L3 F3 l3 M3
              go_wp2_with fail
              go_roundw
              case rel => exact ⟨i + 1, i + 1, f, v3, L3, by omega, by omega, rfl, by go_num, by go_num, by omega, by omega, Lib.hid ⟨by rw [E.out, F3.out, RE.out], M3.out⟩⟩
              case measure => simp [intOf]; omega
            · have b44 : (c == 44) = false := by simpa using h44
              have E := Lib.hid (SO.out h34 h60 h62 h44)
              clear SQE SQO SLE SLO SG SS SO h34 h60 h62 h44
              go_wp2_with fail
              go_roundw
              case rel => exact ⟨i + 1, b, f, x, ps, by omega, by omega, rfl, rfl, by go_num, by omega, by omega, Lib.hid ⟨E.out, H.out.2⟩⟩
              case measure => simp [intOf]; omega
    · obtain rfl : i = s.size := by omega
      have E := Lib.hid (H.out.1.trans (S_end (b := b) (f := f) (acc := ps) (by rw [HL.out]; exact Nat.le_refl _)))
      obtain ⟨R, hR⟩ : ∃ R, pieceOf X b s.size = R := ⟨_, rfl⟩
      have RE := Lib.hid hR
      clear hR
      go_wp2_with fail
      refine (refpiece_b s b s.size R _ (by rw [HX.out, RE.out]) hbi (Nat.le_refl _) hs).mono ?_
      rintro e w1 ⟨rfl, hb1⟩
      have H1 := Lib.hid (H.out.2.step hb1)
      clear hb1
      go_wp2_with (with_reducible refine wpList_pushP rfl (.tmp 89) (.tmp 95) rfl x ps rfl H1.out R rfl (by omega) ?_)
      intro v3 w3 L3 F3 l3 M3
      go_wp2_with fail
      go_ret3
      exact OK.out _ L3 _ (by rw [E.out, HL.out, RE.out, F3.out]) M3.out
end Go.Proofs.YtfhbpgickkibmaaGreatDoor
