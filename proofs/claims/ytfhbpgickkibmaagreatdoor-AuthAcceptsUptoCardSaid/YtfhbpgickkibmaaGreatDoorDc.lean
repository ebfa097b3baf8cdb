/- Contracts: the reference 07's plain and quoted, the reference 04's Joined. -/
import Derived.Test.YtfhbpgickkibmaaGreatDoorDb
namespace Go.Proofs.YtfhbpgickkibmaaGreatDoor
open Go.RowKit

def cleanZ (zs : List ByteArray) : Bool := zs.all fun z => clean (byteL z)
theorem clean_cons (c : Int) (r : List Int) : clean (c :: r) = (!isCtl c && clean r) := by unfold clean; rw [List.all_cons]
set_option maxRecDepth 100000 in
theorem refplain_any (A : Option Addr) (n c : Nat) (zs : List ByteArray) (w : World) (hA : Rds w w.heap.size A (zs.map Value.string)) (hn : zs.length = n) (hN : n ≤ 16000000) (hz : ∀ z ∈ zs, z.size ≤ 4000000) :
    Calls Tryz.prog 50 #[.slice A n c] w fun e w' => e = .returned (.bool (cleanZ zs)) ∧ w = w' := by
  have HA := Lib.hid hA; have HN := Lib.hid hn; have HZ := Lib.hid hz
  clear hA hn hz
  go_enter Tryz.func50, Tryz.ntmps50
  go_wp2_with fail
  go_loop [3] (fun v => ∃ k : Nat, k ≤ n ∧ v = .int .i64 k ∧ Hid (cleanZ zs = cleanZ (zs.drop k))) (fun v => n - (intOf v).toNat)
  case atStart => exact ⟨0, Nat.zero_le _, rfl, Lib.hid rfl⟩
  case round =>
    obtain ⟨k, hk, rfl, H⟩ := hrel
    by_cases hlt : k < n
    · obtain ⟨z, hz⟩ : ∃ z, zs[k]? = some z := ⟨_, List.getElem?_eq_getElem (by rw [HN.out]; exact hlt)⟩
      have DT := Lib.hid (show zs.drop k = z :: zs.drop (k + 1) by
        obtain ⟨hl, rfl⟩ := List.getElem?_eq_some_iff.1 hz
        rw [List.drop_eq_getElem_cons hl])
      obtain ⟨ab, ao, rfl, hab, hac⟩ := HA.out (by rw [List.length_map, HN.out]; omega)
      have c1 : w.cell? ⟨ab, ao + k, none⟩ = some (.string z) := hac k _ (by rw [List.getElem?_map, hz]; rfl)
      have hzs := HZ.out z (List.mem_of_getElem? hz)
      have hd : decide (k < n) = true := by simp [hlt]
      have HB := Lib.hid (byteL_by z)
      have HL := Lib.hid (byteL_len z)
      have HC := Lib.hid (show cleanZ zs = (clean (byteL z) && cleanZ (zs.drop (k + 1))) by rw [H.out, DT.out]; unfold cleanZ; rw [List.all_cons])
      have IDX := Lib.hid (fun (j : Nat) (hj : j < z.size) (w : World) => idx_str z (i := j) hj (z := (j : Int)) rfl w)
      generalize byteL z = X at *
      clear hac hab hz
      go_wp2_with fail
      go_loop [4] (fun v => ∃ j : Nat, j ≤ z.size ∧ v = .int .i64 j ∧ Hid (clean X = clean (X.drop j))) (fun v => z.size - (intOf v).toNat)
      case atStart => exact ⟨0, Nat.zero_le _, rfl, Lib.hid rfl⟩
      case round =>
        obtain ⟨j, hj, rfl, J⟩ := hrel
        by_cases hjl : j < z.size
        · have hd2 : decide (j < z.size) = true := by simp [hjl]
          have d1 := IDX.out j hjl
          have JC := Lib.hid (J.out.trans (by rw [drop_consI X (k := j) (by rw [HL.out]; exact hjl), clean_cons]))
          have hx := HB.out _ (getD_mem (l := X) (i := j) (by rw [HL.out]; exact hjl))
          generalize X.getD j 0 = x at *
          go_wp2_with fail
          refine (refcontrol_any x _ hx.1 hx.2).mono ?_
          rintro e w3 ⟨rfl, rfl⟩
          cases hcx : isCtl x with
          | true =>
            have E := Lib.hid (show cleanZ zs = false by rw [HC.out, JC.out, hcx]; rfl)
            clear hcx
            go_wp2_with fail
            go_ret
            exact ⟨by rw [E.out]; rfl, rfl⟩
          | false =>
            have E := Lib.hid (show clean X = clean (X.drop (j + 1)) by rw [JC.out, hcx]; rfl)
            clear hcx
            go_wp2_with fail
            go_round
            case rel => exact ⟨j + 1, by omega, by go_num, E⟩
            case measure => simp [intOf]; omega
        · obtain rfl : j = z.size := by omega
          have E := Lib.hid (show cleanZ zs = cleanZ (zs.drop (k + 1)) by rw [HC.out, J.out, List.drop_of_length_le (by rw [HL.out]; exact Nat.le_refl _)]; rfl)
          go_wp2_with fail
          go_round
          case rel => exact ⟨k + 1, by omega, by go_num, E⟩
          case measure => simp [intOf]; omega
    · obtain rfl : k = n := by omega
      have E := Lib.hid (show cleanZ zs = true by rw [H.out, List.drop_of_length_le (by rw [HN.out]; exact Nat.le_refl _)]; rfl)
      go_wp2_with fail
      go_ret
      exact ⟨by rw [E.out]; rfl, rfl⟩
set_option maxRecDepth 100000 in
theorem refquoted_any (nm x : ByteArray) (w : World) (hm : nm.size ≤ 100) (hx : x.size ≤ 4000000) (hc : clean (byteL x) = true) :
    Calls Tryz.prog 51 #[.string nm, .string x] w fun e w' => e = .returned (.string (nm ++ ⟨#[61]⟩ ++ strOfNums (quoteL (byteL x)))) ∧ Below w.heap.size w w' := by
  have QS := quoteL_len (byteL x)
  rw [byteL_len, ← num_size] at QS
  have HC := Lib.hid hc
  clear hc
  go_enter Tryz.func51, Tryz.ntmps51
  go_wp2_with fail
  refine (refquote_any x _ hx).mono ?_
  rintro e w1 ⟨rfl, hb1⟩
  have B1 := Lib.hid hb1
  clear hb1
  rw [quoteV_yes HC.out]
  generalize hq : strOfNums (quoteL (byteL x)) = q at *
  have HQ := Lib.hid hq
  clear hq
  go_wp2_with fail
  go_ret
  exact ⟨by rw [HQ.out]; rfl, B1.out⟩
set_option maxRecDepth 100000 in
theorem joined_any (A : Option Addr) (n c : Nat) (zs : List ByteArray) (w : World) (hA : Rds w w.heap.size A (zs.map Value.string)) (hn : zs.length = n) (hN : n ≤ 100) (hz : ∀ z ∈ zs, z.size ≤ 9000000) :
    Calls Tryz.prog 54 #[.slice A n c] w fun e w' => e = .returned (.string (strOfNums (joinL [44, 32] (zs.map byteL)))) ∧ w = w' := by
  have HA := Lib.hid hA; have HN := Lib.hid hn; have HZ := Lib.hid hz
  clear hA hn hz
  go_enter Tryz.func54, Tryz.ntmps54
  go_wp2_with fail
  go_loop [3, 4] (fun v3 v4 => ∃ (k : Nat) (t : ByteArray), k ≤ n ∧ v3 = .string t ∧ v4 = .int .i64 k ∧ t.size ≤ k * 9000002 ∧ Hid (byteL t = joinL [44, 32] ((zs.take k).map byteL))) (fun _ v => n - (intOf v).toNat)
  case atStart => exact ⟨0, ⟨#[]⟩, Nat.zero_le _, rfl, rfl, Nat.le_refl _, Lib.hid rfl⟩
  case round =>
    obtain ⟨k, t, hk, rfl, rfl, ht, H⟩ := hrel
    by_cases hlt : k < n
    · obtain ⟨z, hz⟩ : ∃ z, zs[k]? = some z := ⟨_, List.getElem?_eq_getElem (by rw [HN.out]; exact hlt)⟩
      have DT := Lib.hid (show zs.take (k + 1) = zs.take k ++ [z] by
        obtain ⟨hl, rfl⟩ := List.getElem?_eq_some_iff.1 hz
        rw [List.take_succ_eq_append_getElem hl])
      obtain ⟨ab, ao, rfl, hab, hac⟩ := HA.out (by rw [List.length_map, HN.out]; omega)
      have c1 : w.cell? ⟨ab, ao + k, none⟩ = some (.string z) := hac k _ (by rw [List.getElem?_map, hz]; rfl)
      have hzs := HZ.out z (List.mem_of_getElem? hz)
      have hd : decide (k < n) = true := by simp [hlt]
      have htb : t.size ≤ 900000200 := by have hkb : k * 9000002 ≤ 900000200 := by omega
                                          omega
      have HT := Lib.hid ht
      clear ht
      clear hac hab hz
      by_cases h0 : k = 0
      · have K0 := Lib.hid h0
        have hd0 : decide (0 < k) = false := by simp [h0]
        have hd1 : decide (0 < (k : Int)) = false := by simp [h0]
        have E := Lib.hid (show byteL (t ++ z) = joinL [44, 32] ((zs.take (k + 1)).map byteL) by
          rw [byteL_app, H.out, DT.out, h0]
          simp [joinL_nil, joinL_one])
        clear h0
        go_wp2_with fail
        go_round
        case rel => exact ⟨k + 1, _, by omega, rfl, by go_num, by have := HT.out; rw [ByteArray.size_append]; omega, E⟩
        case measure => simp [intOf]; omega
      · have h0' : 0 < k := by omega
        have hd0 : decide (0 < k) = true := by simp [h0']
        have hd1 : decide (0 < (k : Int)) = true := by simp [h0']
        have E := Lib.hid (show byteL (t ++ ⟨#[44, 32]⟩ ++ z) = joinL [44, 32] ((zs.take (k + 1)).map byteL) by
          rw [byteL_app, byteL_app, H.out, DT.out, List.map_append, List.map_cons, List.map_nil, joinL_snoc _ _ _ (by
            intro e
            have := congrArg List.length e
            rw [List.length_map, List.length_take, List.length_nil, HN.out] at this
            omega), List.append_assoc]
          rfl)
        clear h0
        go_wp2_with fail
        go_round
        case rel => exact ⟨k + 1, _, by omega, rfl, by go_num, by have := HT.out; rw [ByteArray.size_append, ByteArray.size_append]; show _ + 2 + _ ≤ _; omega, E⟩
        case measure => simp [intOf]; omega
    · obtain rfl : k = n := by omega
      have E := Lib.hid (show t = strOfNums (joinL [44, 32] (zs.map byteL)) by
        rw [← str_byteL t, H.out, List.take_of_length_le (by rw [HN.out]; exact Nat.le_refl _)])
      go_wp2_with fail
      go_ret
      exact ⟨by rw [← E.out]; rfl, rfl⟩
end Go.Proofs.YtfhbpgickkibmaaGreatDoor
