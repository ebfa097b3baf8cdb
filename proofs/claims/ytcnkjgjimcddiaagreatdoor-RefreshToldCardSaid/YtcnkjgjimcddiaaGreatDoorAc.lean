/- Contracts: address.lower, header.trim, lexis.Number, header.Number. -/
import Derived.Test.YtcnkjgjimcddiaaGreatDoorAa
import Derived.Test.YtcnkjgjimcddiaaGreatDoorCl
import Derived.Test.YtcnkjgjimcddiaaGreatDoorLb
namespace Go.Proofs.YtcnkjgjimcddiaaGreatDoor
open Go.RowKit

set_option maxRecDepth 100000 in
set_option maxRecDepth 100000 in
theorem adlower_any (s : ByteArray) (w : World) (hM : s.size ≤ 4000000) :
    Calls Tryz.prog 45 #[.string s] w fun e w' => e = .returned (.string (strOfNums (lowS (byteL s)))) ∧ Below w.heap.size w w' := by
  have HB := Lib.hid (byteL_by s)
  have HL := Lib.hid (byteL_len s)
  go_enter Tryz.func45, Tryz.ntmps45
  go_wp2_with (with_reducible refine wpList_bytesW rfl _ rfl s rfl ?_)
  intro cap w1 hcap R1 B1
  generalize hX : byteL s = X at *
  have HX := Lib.hid hX
  clear hX
  go_wp2_with fail
  go_loopw [10] (fun v wr => LWR w w1 X v wr) (fun v _ => s.size - (intOf v).toNat)
  case atStart => exact ⟨0, Nat.zero_le _, rfl, Lib.hid ⟨R1.out, B1.out⟩⟩
  case round =>
    obtain ⟨k, hk, rfl, H⟩ := hrel
    rw [HL.out] at hk
    by_cases hlt : k < s.size
    · have hlt' : k < X.length := by rw [HL.out]; exact hlt
      have hd : decide (k < s.size) = true := by simp; omega
      have hcell := H.out.1.c k _ (lowK_at hlt')
      have hfz := H.out.1.f k (by rw [lowK_len]; exact hlt')
      have hx2 := HB.out _ (getD_mem hlt')
      have LS := Lib.hid (fun hc => lowK_same (xs := X) (k := k) hlt' hc)
      have ST := Lib.hid (show lowC (X.getD k 0) = X.getD k 0 + 32 → BR (wr.setCell ⟨w.heap.size, k, none⟩ (.int .u8 (X.getD k 0 + 32))) w.heap.size (lowK X (k + 1)) from fun hc => by
        rw [← lowK_set hlt', hc]
        exact H.out.1.set (by rw [lowK_len]; exact hlt') _)
      clear hlt'
      generalize X.getD k 0 = x at *
      have x0 := hx2.1
      have x1 := hx2.2
      clear hx2
      by_cases hr : 65 ≤ x ∧ x ≤ 90
      · have d1 : decide (65 ≤ x) = true := by simp [hr.1]
        have d2 : decide (x ≤ 90) = true := by simp [hr.2]
        have S1 := Lib.hid (ST.out (if_pos hr))
        have h65 := hr.1
        have h90 := hr.2
        clear hr
        go_wp2_with fail
        go_roundw
        case rel => exact ⟨k + 1, by rw [HL.out]; omega, by go_num, Lib.hid ⟨S1.out, H.out.2.setCell (Nat.le_refl _) _⟩⟩
        case measure => simp [intOf]; omega
      · have E := Lib.hid (LS.out (if_neg hr))
        have d0 : decide (65 ≤ x) = false ∨ (decide (65 ≤ x) = true ∧ decide (x ≤ 90) = false) := by simp; omega
        clear hr
        rcases d0 with d1 | ⟨d1, d2⟩
        all_goals
          go_wp2_with fail
          go_roundw
          case rel => exact ⟨k + 1, by rw [HL.out]; omega, by go_num, Lib.hid ⟨by rw [← E.out]; exact H.out.1, H.out.2⟩⟩
          case measure => simp [intOf]; omega
    · obtain rfl : k = s.size := by omega
      have HR := H.out.1
      rw [lowK_all (by rw [HL.out]; exact Nat.le_refl _)] at HR
      have cv := HR.conv s.size cap (by rw [lowS_len]; exact HL.out)
      clear HR
      go_wp2_with fail
      go_ret
      exact ⟨by rw [HX.out]; rfl, H.out.2⟩
theorem hdtrim_any (s : ByteArray) (w : World) (hs : s.size ≤ 4000000) : Calls Tryz.prog 54 #[.string s] w fun e w' => e = .returned (.string (strOfNums (trimB (byteL s)))) ∧ Below w.heap.size w w' := by
  go_enter Tryz.func54, Tryz.ntmps54
  go_wp2_with fail
  refine (trimlib_any s _ hs).mono ?_
  rintro e w1 ⟨rfl, hb⟩
  have HB := Lib.hid hb; clear hb
  go_wp2_with fail
  go_ret
  exact ⟨rfl, HB.out⟩
end Go.Proofs.YtcnkjgjimcddiaaGreatDoor
