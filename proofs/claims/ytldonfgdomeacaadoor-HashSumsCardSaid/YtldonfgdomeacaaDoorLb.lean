/- The law HashBack. -/
import Derived.Test.YtldonfgdomeacaaDoorMb
import Derived.Test.YtldonfgdomeacaaDoorLk
namespace Go.Proofs.YtldonfgdomeacaaDoor
open Go.RowKit

theorem Row.bs {w : World} {b : Nat} {T : TypeId} {l : List Int} (h : Row w b T (U8 l)) : Bs w w.heap.size (some ⟨b, 0, none⟩) l := fun _ => ⟨_, rfl, h.lt, fun j x hx => by
  rw [Addr.add_mid, Nat.zero_add, h.cell j]
  exact U8_get hx⟩
set_option maxRecDepth 100000 in
set_option maxHeartbeats 400000 in
theorem back_any (w : World) (A : Option Addr) (n c : Nat) (bs : List Int) (hb : By bs) (hn : bs.length = n) (hc : n ≤ c) (hA : Bs w w.heap.size A bs) (s : ByteArray) (hK : KC w) :
    Calls Tryd.prog 9 #[.slice A n c, .string s] w fun e w' => e = .returned (.bool true) ∧ Below w.heap.size w w' := by
  have HB := Lib.hid hb; have HN := Lib.hid hn; have HA := Lib.hid hA; have HK := Lib.hid hK
  clear hb hn hA hK
  by_cases h1 : 4000 < n
  · have d1 : decide (4000 < (n : Int)) = true := by simp; omega
    go_enter Tryd.func9, Tryd.ntmps9
    go_wp2_with fail
    refine (lives_any _ HK.out).mono ?_
    rintro e w1 ⟨rfl, hb1⟩
    have B1 := Lib.hid hb1
    clear hb1
    go_wp2_with fail
    go_ret
    exact ⟨rfl, B1.out⟩
  · have d1 : decide (4000 < (n : Int)) = false := by simp; omega
    by_cases h2 : 4000 < s.size
    · have d2 : decide (4000 < (s.size : Int)) = true := by simp; omega
      go_enter Tryd.func9, Tryd.ntmps9
      go_wp2_with fail
      refine (lives_any _ HK.out).mono ?_
      rintro e w1 ⟨rfl, hb1⟩
      have B1 := Lib.hid hb1
      clear hb1
      go_wp2_with fail
      go_ret
      exact ⟨rfl, B1.out⟩
    · have d2 : decide (4000 < (s.size : Int)) = false := by simp; omega
      have HZ := Lib.hid (show (strOfNums (hexL bs)).size = 2 * n by rw [strOfNums_size, hexL_len, HN.out])
      have BL := Lib.hid (byteL_str (hexL_by HB.out))
      have GU := Lib.hid (hexL_good HB.out)
      have UL := Lib.hid (show unL (hexL bs) n = bs by rw [← HN.out]; exact unL_hexL HB.out)
      have LH := Lib.hid (show (hexL bs).length / 2 = n by rw [hexL_len, HN.out]; omega)
      go_enter Tryd.func9, Tryd.ntmps9
      go_wp2_with fail
      refine (hex_any A n c bs w HB.out HA.out HN.out hc (by omega)).mono ?_
      rintro e w1 ⟨rfl, hb1⟩
      have B1 := Lib.hid hb1
      clear hb1
      go_wp2_with fail
      refine (unhex_any (strOfNums (hexL bs)) w1 (by rw [HZ.out]; omega)).mono ?_
      rintro e w2 ⟨hb2, he2⟩
      rw [BL.out, GU.out, if_pos rfl, LH.out, UL.out] at he2
      obtain ⟨rfl, hr2⟩ := he2
      have B2 := Lib.hid (B1.out.trans (hb2.mono B1.out.size)); have R2 := Lib.hid hr2
      clear hb2 hr2
      have cv1 := conv_row (n := n) (cap := n) R2.out HN.out
      have cv2 := conv_bs (c := c) (HA.out.below B2.out) HB.out HN.out
      go_wp2_with fail
      refine (hex_any A n c bs w2 HB.out ((HA.out.below B2.out).up B2.out.size) HN.out hc (by omega)).mono ?_
      rintro e w3 ⟨rfl, hb3⟩
      have B3 := Lib.hid (B2.out.trans (hb3.mono B2.out.size))
      clear hb3 cv1 cv2 R2
      have hz := HZ.out
      have hz2 : (((strOfNums (hexL bs)).size : Nat) : Int) = 2 * (n : Int) := by omega
      clear hz
      go_wp2_with fail
      refine (unhex_any s w3 (by omega)).mono ?_
      rintro e w4 ⟨hb4, he4⟩
      have B4 := Lib.hid (B3.out.trans (hb4.mono B3.out.size))
      clear hb4 hz2
      cases hg : goodU (byteL s)
      · rw [hg, if_neg (by decide)] at he4
        subst he4
        clear hg
        go_wp2_with fail
        refine (lives_any w4 (HK.out.below B4.out)).mono ?_
        rintro e w5 ⟨rfl, hb5⟩
        have B5 := Lib.hid (B4.out.trans (hb5.mono B4.out.size))
        clear hb5
        go_wp2_with fail
        go_ret
        exact ⟨rfl, B5.out⟩
      · rw [hg, if_pos rfl] at he4
        obtain ⟨rfl, hr4⟩ := he4
        have R4 := Lib.hid hr4
        have HU := Lib.hid (hexL_unL hg)
        have SL := Lib.hid (byteL_len s)
        clear hg hr4
        go_wp2_with fail
        refine (hex_any _ _ _ (unL (byteL s) ((byteL s).length / 2)) w4 (unL_by _ _) R4.out.bs (unL_len _ _) (Nat.le_refl _) (by rw [SL.out]; omega)).mono ?_
        rintro e w5 ⟨rfl, hb5⟩
        have B5 := Lib.hid (B4.out.trans (hb5.mono B4.out.size))
        clear hb5
        rw [HU.out]
        go_wp2_with fail
        refine (lower_any s w5 (by omega)).mono ?_
        rintro e w6 ⟨rfl, hb6⟩
        have B6 := Lib.hid (B5.out.trans (hb6.mono B5.out.size))
        clear hb6
        go_wp2_with fail
        refine (lives_any w6 (HK.out.below B6.out)).mono ?_
        rintro e w7 ⟨rfl, hb7⟩
        have B7 := Lib.hid (B6.out.trans (hb7.mono B6.out.size))
        clear hb7
        go_wp2_with fail
        go_ret
        exact ⟨rfl, B7.out⟩
end Go.Proofs.YtldonfgdomeacaaDoor
