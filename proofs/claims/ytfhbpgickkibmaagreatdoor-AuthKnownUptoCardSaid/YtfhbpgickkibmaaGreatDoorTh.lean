/- The law AuthKnown. -/
import Derived.Test.YtfhbpgickkibmaaGreatDoorTf
import Derived.Lib.SlBytesConst
namespace Go.Proofs.YtfhbpgickkibmaaGreatDoor
open Go.RowKit

theorem kn_ch0 : chV (parseCh (byteL (⟨#[68, 105, 103, 101, 115, 116, 32, 114, 101, 97, 108, 109, 61, 114]⟩ : ByteArray))) = .tuple #[.agg #[.string ⟨#[]⟩, .string ⟨#[]⟩, .string ⟨#[]⟩, .bool false, .bool false], .int .u8 8] := by kernel_rfl
theorem kn_ch1 : chV (parseCh (byteL (⟨#[68, 105, 103, 101, 115, 116, 32, 114, 101, 97, 108, 109, 61, 114, 44, 32, 114, 101, 97, 108, 109, 61, 114]⟩ : ByteArray))) = .tuple #[.agg #[.string ⟨#[]⟩, .string ⟨#[]⟩, .string ⟨#[]⟩, .bool false, .bool false], .int .u8 7] := by kernel_rfl
theorem kn_ch2 : chV (parseCh (byteL (⟨#[68, 105, 103, 101, 115, 116, 32, 114, 101, 97, 108, 109]⟩ : ByteArray))) = .tuple #[.agg #[.string ⟨#[]⟩, .string ⟨#[]⟩, .string ⟨#[]⟩, .bool false, .bool false], .int .u8 5] := by kernel_rfl
theorem kn_ch3 : chV (parseCh (byteL (⟨#[68, 105, 103, 101, 115, 116, 32, 114, 101, 97, 108, 109, 61, 114, 44, 32, 110, 111, 110, 99, 101, 61, 110, 44, 32, 113, 111, 112, 61, 97, 117, 116, 104]⟩ : ByteArray))) = .tuple #[.agg #[.string ⟨#[]⟩, .string ⟨#[]⟩, .string ⟨#[]⟩, .bool false, .bool false], .int .u8 15] := by kernel_rfl
theorem kn_ch4 : chV (parseCh (byteL (⟨#[68, 105, 103, 101, 115, 116, 32, 114, 101, 97, 108, 109, 61, 114, 44, 32, 110, 111, 110, 99, 101, 61, 110, 44, 32, 97, 108, 103, 111, 114, 105, 116, 104, 109, 61, 83, 72, 65, 45, 50, 53, 54, 44, 32, 113, 111, 112, 61, 34, 97, 117, 116, 104, 45, 105, 110, 116, 34]⟩ : ByteArray))) = .tuple #[.agg #[.string ⟨#[]⟩, .string ⟨#[]⟩, .string ⟨#[]⟩, .bool false, .bool false], .int .u8 15] := by kernel_rfl
theorem kn_ch5 : chV (parseCh (byteL (⟨#[68, 105, 103, 101, 115, 116, 32, 34]⟩ : ByteArray))) = .tuple #[.agg #[.string ⟨#[]⟩, .string ⟨#[]⟩, .string ⟨#[]⟩, .bool false, .bool false], .int .u8 6] := by kernel_rfl
theorem kn_ch6 : chV (parseCh (byteL (⟨#[32, 68, 73, 71, 69, 83, 84, 32, 114, 101, 97, 108, 109, 61, 34, 97, 32, 92, 34, 98, 34, 44, 32, 110, 111, 110, 99, 101, 61, 34, 34, 44, 32, 97, 108, 103, 111, 114, 105, 116, 104, 109, 61, 115, 104, 97, 45, 50, 53, 54, 44, 32, 113, 111, 112, 61, 34, 97, 117, 116, 104, 45, 105, 110, 116, 44, 32, 97, 117, 116, 104, 34, 44, 32, 83, 84, 65, 76, 69, 61, 84, 114, 117, 101, 44, 32, 109, 111, 114, 101, 61, 49]⟩ : ByteArray))) = .tuple #[.agg #[.string ⟨#[97, 32, 34, 98]⟩, .string ⟨#[]⟩, .string ⟨#[]⟩, .bool true, .bool true], .int .u8 0] := by kernel_rfl
theorem kn_cr0 : crV (parseCr (byteL (⟨#[68, 105, 103, 101, 115, 116, 32, 117, 115, 101, 114, 110, 97, 109, 101, 61, 117, 44, 32, 114, 101, 97, 108, 109, 61, 114, 44, 32, 110, 111, 110, 99, 101, 61, 110, 44, 32, 117, 114, 105, 61, 117, 44, 32, 114, 101, 115, 112, 111, 110, 115, 101, 61, 120, 44, 32, 99, 110, 111, 110, 99, 101, 61, 99, 44, 32, 97, 108, 103, 111, 114, 105, 116, 104, 109, 61, 83, 72, 65, 45, 50, 53, 54, 44, 32, 113, 111, 112, 61, 97, 117, 116, 104, 44, 32, 110, 99, 61, 49]⟩ : ByteArray))) = .tuple #[.agg #[.string ⟨#[]⟩, .string ⟨#[]⟩, .string ⟨#[]⟩, .string ⟨#[]⟩, .string ⟨#[]⟩, .string ⟨#[]⟩, .string ⟨#[]⟩, .int .i64 0, .bool false], .int .u8 5] := by kernel_rfl
theorem kn_cr1 : crV (parseCr (byteL (⟨#[68, 105, 103, 101, 115, 116, 32, 117, 115, 101, 114, 110, 97, 109, 101, 61, 117, 44, 32, 114, 101, 97, 108, 109, 61, 114, 44, 32, 110, 111, 110, 99, 101, 61, 110, 44, 32, 117, 114, 105, 61, 117, 44, 32, 114, 101, 115, 112, 111, 110, 115, 101, 61, 120, 44, 32, 99, 110, 111, 110, 99, 101, 61, 99, 44, 32, 97, 108, 103, 111, 114, 105, 116, 104, 109, 61, 83, 72, 65, 45, 50, 53, 54, 44, 32, 113, 111, 112, 61, 120, 44, 32, 110, 99, 61, 48, 48, 48, 48, 48, 48, 48, 49]⟩ : ByteArray))) = .tuple #[.agg #[.string ⟨#[]⟩, .string ⟨#[]⟩, .string ⟨#[]⟩, .string ⟨#[]⟩, .string ⟨#[]⟩, .string ⟨#[]⟩, .string ⟨#[]⟩, .int .i64 0, .bool false], .int .u8 15] := by kernel_rfl
theorem kn_pcr : prV (printCr ⟨byteL ⟨#[]⟩, byteL ⟨#[]⟩, byteL ⟨#[]⟩, byteL ⟨#[]⟩, byteL ⟨#[]⟩, byteL ⟨#[]⟩, byteL ⟨#[]⟩, -1, false⟩) = .tuple #[.string ⟨#[]⟩, .int .u8 2] := by kernel_rfl
theorem kn_pch : prV (printCh ⟨byteL ⟨#[0]⟩, byteL ⟨#[]⟩, byteL ⟨#[]⟩, false, false⟩) = .tuple #[.string ⟨#[]⟩, .int .u8 2] := by kernel_rfl
theorem kn_iss : issL ⟨#[]⟩ ⟨#[]⟩ 1 0 0 [] = ⟨⟨#[]⟩, ⟨#[]⟩, 1, 1, [⟨txtI ⟨#[]⟩ 0 0, 0, 0⟩], ⟨#[]⟩, txtI ⟨#[]⟩ 0 0, true, 0⟩ := issL_ok rfl
theorem kn_ver0 {TX : ByteArray} : verL ⟨#[]⟩ ⟨#[]⟩ 1 1 0 0 [⟨TX, 0, 0⟩] [] [] ⟨#[]⟩ ⟨#[]⟩ [] = ⟨⟨#[]⟩, ⟨#[]⟩, 1, 1, [⟨TX, 0, 0⟩], ⟨#[]⟩, 8⟩ := verL_none rfl rfl
theorem kn_ver1 {TX : ByteArray} : verL ⟨#[]⟩ ⟨#[]⟩ 1 1 200 0 [⟨TX, 0, 0⟩] [] [] ⟨#[]⟩ ⟨#[]⟩ [] = ⟨⟨#[]⟩, ⟨#[]⟩, 0, 0, [], ⟨#[]⟩, 2⟩ := verL_bad rfl
theorem kn_val : validG (byteL ⟨#[]⟩) (byteL ⟨#[1]⟩) 1 0 [] = false := by kernel_rfl
theorem kn_sec : hashL [byteL Us, byteL Rr, byteL Ps] = textH (byteL (⟨#[117, 58, 114, 58, 112]⟩ : ByteArray)) := congrArg textH (by kernel_rfl)
theorem kn_act : hashL [byteL (⟨#[65]⟩ : ByteArray), byteL (⟨#[115, 105, 112, 58, 97]⟩ : ByteArray)] = textH (byteL (⟨#[65, 58, 115, 105, 112, 58, 97]⟩ : ByteArray)) := congrArg textH (by kernel_rfl)
theorem kn_actb (T : List Int) : hashL [byteL (⟨#[65]⟩ : ByteArray), byteL (⟨#[115, 105, 112, 58, 97]⟩ : ByteArray), T] = textH (byteL (⟨#[65, 58, 115, 105, 112, 58, 97, 58]⟩ : ByteArray) ++ T) := congrArg textH (by
  rw [show byteL (⟨#[65, 58, 115, 105, 112, 58, 97, 58]⟩ : ByteArray) = byteL (⟨#[65]⟩ : ByteArray) ++ [58] ++ byteL (⟨#[115, 105, 112, 58, 97]⟩ : ByteArray) ++ [58] by kernel_rfl]; simp [joinL])
theorem kn_resp (T : List Int) : hashL [byteL (⟨#[115]⟩ : ByteArray), byteL (⟨#[110]⟩ : ByteArray), hex8 10, byteL (⟨#[99]⟩ : ByteArray), QUAL false, T] = textH (byteL (⟨#[115, 58, 110, 58, 48, 48, 48, 48, 48, 48, 48, 97, 58, 99, 58, 97, 117, 116, 104, 58]⟩ : ByteArray) ++ T) := congrArg textH (by
  rw [show byteL (⟨#[115, 58, 110, 58, 48, 48, 48, 48, 48, 48, 48, 97, 58, 99, 58, 97, 117, 116, 104, 58]⟩ : ByteArray) = byteL (⟨#[115]⟩ : ByteArray) ++ [58] ++ byteL (⟨#[110]⟩ : ByteArray) ++ [58] ++ hex8 10 ++ [58] ++ byteL (⟨#[99]⟩ : ByteArray) ++ [58] ++ QUAL false ++ [58] by kernel_rfl]; simp [joinL])
theorem kn_respi (T : List Int) : hashL [byteL (⟨#[115]⟩ : ByteArray), byteL (⟨#[110]⟩ : ByteArray), hex8 10, byteL (⟨#[99]⟩ : ByteArray), QUAL true, T] = textH (byteL (⟨#[115, 58, 110, 58, 48, 48, 48, 48, 48, 48, 48, 97, 58, 99, 58, 97, 117, 116, 104, 45, 105, 110, 116, 58]⟩ : ByteArray) ++ T) := congrArg textH (by
  rw [show byteL (⟨#[115, 58, 110, 58, 48, 48, 48, 48, 48, 48, 48, 97, 58, 99, 58, 97, 117, 116, 104, 45, 105, 110, 116, 58]⟩ : ByteArray) = byteL (⟨#[115]⟩ : ByteArray) ++ [58] ++ byteL (⟨#[110]⟩ : ByteArray) ++ [58] ++ hex8 10 ++ [58] ++ byteL (⟨#[99]⟩ : ByteArray) ++ [58] ++ QUAL true ++ [58] by kernel_rfl]; simp [joinL])
theorem kn_r1 : respL (byteL (⟨#[115]⟩ : ByteArray)) (byteL (⟨#[110]⟩ : ByteArray)) 10 (byteL (⟨#[99]⟩ : ByteArray)) false (byteL (⟨#[115, 105, 112, 58, 97]⟩ : ByteArray)) (byteL (⟨#[65]⟩ : ByteArray)) [] = textH (byteL (⟨#[115, 58, 110, 58, 48, 48, 48, 48, 48, 48, 48, 97, 58, 99, 58, 97, 117, 116, 104, 58]⟩ : ByteArray) ++ textH (byteL (⟨#[65, 58, 115, 105, 112, 58, 97]⟩ : ByteArray))) := by
  rw [← kn_resp, ← kn_act]; rfl
theorem kn_r2 : respL (byteL (⟨#[115]⟩ : ByteArray)) (byteL (⟨#[110]⟩ : ByteArray)) 10 (byteL (⟨#[99]⟩ : ByteArray)) true (byteL (⟨#[115, 105, 112, 58, 97]⟩ : ByteArray)) (byteL (⟨#[65]⟩ : ByteArray)) [98] = textH (byteL (⟨#[115, 58, 110, 58, 48, 48, 48, 48, 48, 48, 48, 97, 58, 99, 58, 97, 117, 116, 104, 45, 105, 110, 116, 58]⟩ : ByteArray) ++ textH (byteL (⟨#[65, 58, 115, 105, 112, 58, 97, 58]⟩ : ByteArray) ++ textH (byteL (⟨#[98]⟩ : ByteArray)))) := by
  rw [← kn_respi, ← kn_actb]; rfl
theorem cr9_one (a b c d e f g : ByteArray) (k : Int) (q : Bool) : ∀ u ∈ [Value.string a, .string b, .string c, .string d, .string e, .string f, .string g, .int .i64 k, .bool q], u.oneCell' = true := fun u hu => by
  simp at hu
  rcases hu with rfl | rfl | rfl | rfl | rfl | rfl | rfl | rfl | rfl <;> rfl
theorem add_str (a : ByteArray) (l : List Int) (h : a.size + l.length ≤ 16000000) (w : World) : (Op.stringOp .add a (strOfNums l)).run Tryz.prog w = .ok (.string (strOfNums (byteL a ++ l))) w := by
  rw [run_string_add_sum (P := Tryz.prog) w _ _ (by rw [num_size]; omega), ← str_byteL a, str_app, str_byteL]
set_option maxRecDepth 100000 in
set_option maxHeartbeats 4000000 in
theorem known_any (w : World) (hG : GM w) (hK : KC w) (hP : PT w) (hS : SC w) :
    Calls Tryz.prog 11 #[] w fun e w' => e = .returned (.bool true) ∧ Below w.heap.size w w' := by
  have HG := Lib.hid hG; have HK := Lib.hid hK; have HP := Lib.hid hP; have SC := Lib.hid hS
  clear hG hK hP hS
  go_enter Tryz.func11, Tryz.ntmps11
  go_wp2_with (with_reducible refine wpList_storeN rfl 23 (.tmp 1) (.tmp 47) rfl [.string ⟨#[]⟩, .string ⟨#[]⟩, .string ⟨#[]⟩, .string ⟨#[]⟩, .string ⟨#[]⟩, .string ⟨#[]⟩, .string ⟨#[]⟩, .int .i64 0, .bool false] [.string ⟨#[]⟩, .string ⟨#[]⟩, .string ⟨#[110]⟩, .string ⟨#[115, 105, 112, 58, 97]⟩, .string ⟨#[]⟩, .string ⟨#[99]⟩, .string ⟨#[]⟩, .int .i64 10, .bool false] rfl rfl (rfl) (sizeL9 _ _ _ _ _ _ _ _ _) (cr9_one _ _ _ _ _ _ _ _ _) ?_)
  intro X R1 B1
  have ST := Lib.hid ((Mine.refl w).join B1.out (Nat.le_refl _) R1.out)
  clear R1 B1
  go_wp2_with fail
  refine (secret_any Us Rr Ps _ (by decide) (HK.out.below ST.out.bw)).mono ?_
  rintro e Xa ⟨rfl, hb⟩
  rw [kn_sec]
  replace ST := Lib.hid (ST.out.call hb)
  clear hb
  go_wp2_with fail
  refine (htext_any (⟨#[117, 58, 114, 58, 112]⟩ : ByteArray) _ (by decide) (HK.out.below ST.out.bw)).mono ?_
  rintro e Xb ⟨rfl, hb⟩
  replace ST := Lib.hid (ST.out.call hb)
  clear hb
  generalize textH (byteL (⟨#[117, 58, 114, 58, 112]⟩ : ByteArray)) = H1
  have k0 := (ST.out.row (i := 0) rfl).cell 0; have k1 := (ST.out.row (i := 0) rfl).cell 1; have k2 := (ST.out.row (i := 0) rfl).cell 2; have k3 := (ST.out.row (i := 0) rfl).cell 3; have k4 := (ST.out.row (i := 0) rfl).cell 4; have k5 := (ST.out.row (i := 0) rfl).cell 5; have k6 := (ST.out.row (i := 0) rfl).cell 6; have k7 := (ST.out.row (i := 0) rfl).cell 7; have k8 := (ST.out.row (i := 0) rfl).cell 8
  simp only [List.getElem?_cons_succ, List.getElem?_cons_zero] at k0 k1 k2 k3 k4 k5 k6 k7 k8
  go_wp2_with fail
  clear k0 k1 k2 k3 k4 k5 k6 k7 k8
  refine (response_any (⟨#[115]⟩ : ByteArray) (⟨#[65]⟩ : ByteArray) ⟨#[]⟩ ⟨#[]⟩ (⟨#[110]⟩ : ByteArray) (⟨#[115, 105, 112, 58, 97]⟩ : ByteArray) ⟨#[]⟩ (⟨#[99]⟩ : ByteArray) ⟨#[]⟩ 10 10 false none 0 0 [] _ (fun y hy => by cases hy) rfl (fun h => absurd h (by simp)) rfl (by decide) (by decide) (by decide) (HK.out.below ST.out.bw)).mono ?_
  rintro e Xc ⟨rfl, hb⟩
  rw [kn_r1]
  replace ST := Lib.hid (ST.out.call hb)
  clear hb
  go_wp2_with fail
  refine (htext_any (⟨#[65, 58, 115, 105, 112, 58, 97]⟩ : ByteArray) _ (by decide) (HK.out.below ST.out.bw)).mono ?_
  rintro e Xd ⟨rfl, hb⟩
  replace ST := Lib.hid (ST.out.call hb)
  clear hb
  have AS := add_str (⟨#[115, 58, 110, 58, 48, 48, 48, 48, 48, 48, 48, 97, 58, 99, 58, 97, 117, 116, 104, 58]⟩ : ByteArray) (textH (byteL (⟨#[65, 58, 115, 105, 112, 58, 97]⟩ : ByteArray))) (by rw [textH_len]; decide)
  have TB := Lib.hid (show By (byteL (⟨#[115, 58, 110, 58, 48, 48, 48, 48, 48, 48, 48, 97, 58, 99, 58, 97, 117, 116, 104, 58]⟩ : ByteArray) ++ textH (byteL (⟨#[65, 58, 115, 105, 112, 58, 97]⟩ : ByteArray))) from fun x hx => (List.mem_append.1 hx).elim (byteL_by _ x) (textH_by _ x))
  have TL := Lib.hid (show (byteL (⟨#[115, 58, 110, 58, 48, 48, 48, 48, 48, 48, 48, 97, 58, 99, 58, 97, 117, 116, 104, 58]⟩ : ByteArray) ++ textH (byteL (⟨#[65, 58, 115, 105, 112, 58, 97]⟩ : ByteArray))).length ≤ 16000000 by rw [List.length_append, byteL_len, textH_len]; decide)
  generalize byteL (⟨#[115, 58, 110, 58, 48, 48, 48, 48, 48, 48, 48, 97, 58, 99, 58, 97, 117, 116, 104, 58]⟩ : ByteArray) ++ textH (byteL (⟨#[65, 58, 115, 105, 112, 58, 97]⟩ : ByteArray)) = L2 at *
  generalize textH (byteL (⟨#[65, 58, 115, 105, 112, 58, 97]⟩ : ByteArray)) = H2 at *
  go_wp2_with fail
  clear AS
  refine (htextb_any L2 _ TB.out TL.out (HK.out.below ST.out.bw)).mono ?_
  rintro e Xe ⟨rfl, hb⟩
  replace ST := Lib.hid (ST.out.call hb)
  clear hb TB TL
  generalize textH L2 = H3
  have f8 := (ST.out.row (i := 0) rfl).frozen 8
  have e8 := (ST.out.row (i := 0) rfl).cell 8
  simp only [List.getElem?_cons_succ, List.getElem?_cons_zero] at e8
  have STq := Lib.hid (Mine.setCell (off := 8) (.bool true) ST.out (i := 0) rfl rfl)
  clear ST
  simp only [List.set_cons_zero, List.set_cons_succ] at STq
  have ST := STq
  clear STq
  have k0 := (ST.out.row (i := 0) rfl).cell 0; have k1 := (ST.out.row (i := 0) rfl).cell 1; have k2 := (ST.out.row (i := 0) rfl).cell 2; have k3 := (ST.out.row (i := 0) rfl).cell 3; have k4 := (ST.out.row (i := 0) rfl).cell 4; have k5 := (ST.out.row (i := 0) rfl).cell 5; have k6 := (ST.out.row (i := 0) rfl).cell 6; have k7 := (ST.out.row (i := 0) rfl).cell 7; have k8 := (ST.out.row (i := 0) rfl).cell 8
  simp only [List.getElem?_cons_succ, List.getElem?_cons_zero] at k0 k1 k2 k3 k4 k5 k6 k7 k8
  have CV : (convert 31 31 (.slice (some ⟨Xe.heap.size, 0, none⟩) 1 1)).run Tryz.prog ((Xe.setCell ⟨w.heap.size, 8, none⟩ (.bool true)).alloc (.cells #[.int .u8 98] 5)) = .ok (.slice (some ⟨Xe.heap.size, 0, none⟩) 1 1) ((Xe.setCell ⟨w.heap.size, 8, none⟩ (.bool true)).alloc (.cells #[.int .u8 98] 5 (1, 2))) := by
    have h := Lib.run_convert_bytes_const (P := Tryz.prog) (Xe.setCell ⟨w.heap.size, 8, none⟩ (.bool true)) 31 5 #[.int .u8 98] 1 1 Tryz.underlying31 Tryz.underlying5
    rwa [show (Xe.setCell ⟨w.heap.size, 8, none⟩ (.bool true)).heap.size = Xe.heap.size by simp [World.setCell]] at h
  go_wp2_with fail
  clear k0 k1 k2 k3 k4 k5 k6 k7 k8
  have hz : (Xe.setCell ⟨w.heap.size, 8, none⟩ (.bool true)).heap.size = Xe.heap.size := by simp [World.setCell]
  obtain ⟨Wg, hWg⟩ : ∃ Wg, Wg = (Xe.setCell ⟨w.heap.size, 8, none⟩ (.bool true)).alloc (.cells #[.int .u8 98] 5 (1, 2)) := ⟨_, rfl⟩
  rw [← hWg]
  have hw1 : Wg.heap[Xe.heap.size]? = some (.cells #[.int .u8 98] 5 (1, 2)) := by rw [hWg, ← hz]; exact heap_alloc_new _ _
  have HBb := Lib.hid (show Bs Wg Wg.heap.size (some ⟨Xe.heap.size, 0, none⟩) [98] from fun _ => ⟨⟨Xe.heap.size, 0, none⟩, rfl, (Array.getElem?_eq_some_iff.1 hw1).1, fun j x hx => by
    obtain ⟨rfl, rfl⟩ : j = 0 ∧ 98 = x := by
      cases j with
      | zero => exact ⟨rfl, Option.some.inj hx⟩
      | succ j => simp at hx
    rw [Addr.add_mid]
    simp [World.cell?, hw1]⟩)
  replace ST := Lib.hid (show Mine w Wg _ _ from hWg ▸ ST.out.call ((Below.refl _ _).alloc (Nat.le_refl _) _))
  clear CV f8 e8 hz hw1 hWg
  refine (response_any (⟨#[115]⟩ : ByteArray) (⟨#[65]⟩ : ByteArray) ⟨#[]⟩ ⟨#[]⟩ (⟨#[110]⟩ : ByteArray) (⟨#[115, 105, 112, 58, 97]⟩ : ByteArray) ⟨#[]⟩ (⟨#[99]⟩ : ByteArray) ⟨#[]⟩ 10 10 true (some ⟨Xe.heap.size, 0, none⟩) 1 1 [98] _ (fun y hy => by rw [List.mem_singleton] at hy; subst hy; decide) rfl HBb.out rfl (by decide) (by decide) (by decide) (HK.out.below ST.out.bw)).mono ?_
  rintro e Xg ⟨rfl, hb⟩
  rw [kn_r2]
  replace ST := Lib.hid (ST.out.call hb)
  clear hb HBb
  go_wp2_with fail
  refine (htext_any (⟨#[98]⟩ : ByteArray) _ (by decide) (HK.out.below ST.out.bw)).mono ?_
  rintro e Xh ⟨rfl, hb⟩
  replace ST := Lib.hid (ST.out.call hb)
  clear hb
  have AS := add_str (⟨#[65, 58, 115, 105, 112, 58, 97, 58]⟩ : ByteArray) (textH (byteL (⟨#[98]⟩ : ByteArray))) (by rw [textH_len]; decide)
  have TB := Lib.hid (show By (byteL (⟨#[65, 58, 115, 105, 112, 58, 97, 58]⟩ : ByteArray) ++ textH (byteL (⟨#[98]⟩ : ByteArray))) from fun x hx => (List.mem_append.1 hx).elim (byteL_by _ x) (textH_by _ x))
  have TL := Lib.hid (show (byteL (⟨#[65, 58, 115, 105, 112, 58, 97, 58]⟩ : ByteArray) ++ textH (byteL (⟨#[98]⟩ : ByteArray))).length ≤ 16000000 by rw [List.length_append, byteL_len, textH_len]; decide)
  generalize byteL (⟨#[65, 58, 115, 105, 112, 58, 97, 58]⟩ : ByteArray) ++ textH (byteL (⟨#[98]⟩ : ByteArray)) = L5 at *
  generalize textH (byteL (⟨#[98]⟩ : ByteArray)) = H5 at *
  go_wp2_with fail
  clear AS
  refine (htextb_any L5 _ TB.out TL.out (HK.out.below ST.out.bw)).mono ?_
  rintro e Xi ⟨rfl, hb⟩
  replace ST := Lib.hid (ST.out.call hb)
  clear hb TB TL
  have AS := add_str (⟨#[115, 58, 110, 58, 48, 48, 48, 48, 48, 48, 48, 97, 58, 99, 58, 97, 117, 116, 104, 45, 105, 110, 116, 58]⟩ : ByteArray) (textH L5) (by rw [textH_len]; decide)
  have TB := Lib.hid (show By (byteL (⟨#[115, 58, 110, 58, 48, 48, 48, 48, 48, 48, 48, 97, 58, 99, 58, 97, 117, 116, 104, 45, 105, 110, 116, 58]⟩ : ByteArray) ++ textH L5) from fun x hx => (List.mem_append.1 hx).elim (byteL_by _ x) (textH_by _ x))
  have TL := Lib.hid (show (byteL (⟨#[115, 58, 110, 58, 48, 48, 48, 48, 48, 48, 48, 97, 58, 99, 58, 97, 117, 116, 104, 45, 105, 110, 116, 58]⟩ : ByteArray) ++ textH L5).length ≤ 16000000 by rw [List.length_append, byteL_len, textH_len]; decide)
  generalize byteL (⟨#[115, 58, 110, 58, 48, 48, 48, 48, 48, 48, 48, 97, 58, 99, 58, 97, 117, 116, 104, 45, 105, 110, 116, 58]⟩ : ByteArray) ++ textH L5 = L6 at *
  generalize textH L5 = H6 at *
  go_wp2_with fail
  clear AS
  refine (htextb_any L6 _ TB.out TL.out (HK.out.below ST.out.bw)).mono ?_
  rintro e Xj ⟨rfl, hb⟩
  replace ST := Lib.hid (ST.out.call hb)
  clear hb TB TL
  generalize textH L6 = H7
  go_wp2_with fail
  refine (parsech_any (⟨#[68, 105, 103, 101, 115, 116, 32, 114, 101, 97, 108, 109, 61, 114]⟩ : ByteArray) _ (by decide) (HG.out.below ST.out.bw)).mono ?_
  rintro e X0 ⟨rfl, hb⟩
  rw [kn_ch0]
  replace ST := Lib.hid (ST.out.call hb)
  clear hb
  go_wp2_with (with_reducible refine wpList_storeN rfl 36 (.tmp 3) (.tmp 75) rfl [.string ⟨#[]⟩, .string ⟨#[]⟩, .string ⟨#[]⟩, .bool false, .bool false] [.string ⟨#[]⟩, .string ⟨#[]⟩, .string ⟨#[]⟩, .bool false, .bool false] rfl rfl (lenG _ _ _ _ _ _ _ _ _ _) (sizeCh _ _ _ _ _) (ch_one _ _ _ _ _) ?_)
  intro Y0 R0 B0
  replace ST := Lib.hid (ST.out.call B0.out)
  clear B0 R0
  go_wp2_with fail
  refine (parsech_any (⟨#[68, 105, 103, 101, 115, 116, 32, 114, 101, 97, 108, 109, 61, 114, 44, 32, 114, 101, 97, 108, 109, 61, 114]⟩ : ByteArray) _ (by decide) (HG.out.below ST.out.bw)).mono ?_
  rintro e X1 ⟨rfl, hb⟩
  rw [kn_ch1]
  replace ST := Lib.hid (ST.out.call hb)
  clear hb
  go_wp2_with (with_reducible refine wpList_storeN rfl 36 (.tmp 5) (.tmp 79) rfl [.string ⟨#[]⟩, .string ⟨#[]⟩, .string ⟨#[]⟩, .bool false, .bool false] [.string ⟨#[]⟩, .string ⟨#[]⟩, .string ⟨#[]⟩, .bool false, .bool false] rfl rfl (lenG _ _ _ _ _ _ _ _ _ _) (sizeCh _ _ _ _ _) (ch_one _ _ _ _ _) ?_)
  intro Y1 R1 B1
  replace ST := Lib.hid (ST.out.call B1.out)
  clear B1 R1
  go_wp2_with fail
  refine (parsech_any (⟨#[68, 105, 103, 101, 115, 116, 32, 114, 101, 97, 108, 109]⟩ : ByteArray) _ (by decide) (HG.out.below ST.out.bw)).mono ?_
  rintro e X2 ⟨rfl, hb⟩
  rw [kn_ch2]
  replace ST := Lib.hid (ST.out.call hb)
  clear hb
  go_wp2_with (with_reducible refine wpList_storeN rfl 36 (.tmp 7) (.tmp 83) rfl [.string ⟨#[]⟩, .string ⟨#[]⟩, .string ⟨#[]⟩, .bool false, .bool false] [.string ⟨#[]⟩, .string ⟨#[]⟩, .string ⟨#[]⟩, .bool false, .bool false] rfl rfl (lenG _ _ _ _ _ _ _ _ _ _) (sizeCh _ _ _ _ _) (ch_one _ _ _ _ _) ?_)
  intro Y2 R2 B2
  replace ST := Lib.hid (ST.out.call B2.out)
  clear B2 R2
  go_wp2_with fail
  refine (parsech_any (⟨#[68, 105, 103, 101, 115, 116, 32, 114, 101, 97, 108, 109, 61, 114, 44, 32, 110, 111, 110, 99, 101, 61, 110, 44, 32, 113, 111, 112, 61, 97, 117, 116, 104]⟩ : ByteArray) _ (by decide) (HG.out.below ST.out.bw)).mono ?_
  rintro e X3 ⟨rfl, hb⟩
  rw [kn_ch3]
  replace ST := Lib.hid (ST.out.call hb)
  clear hb
  go_wp2_with (with_reducible refine wpList_storeN rfl 36 (.tmp 9) (.tmp 87) rfl [.string ⟨#[]⟩, .string ⟨#[]⟩, .string ⟨#[]⟩, .bool false, .bool false] [.string ⟨#[]⟩, .string ⟨#[]⟩, .string ⟨#[]⟩, .bool false, .bool false] rfl rfl (lenG _ _ _ _ _ _ _ _ _ _) (sizeCh _ _ _ _ _) (ch_one _ _ _ _ _) ?_)
  intro Y3 R3 B3
  replace ST := Lib.hid (ST.out.call B3.out)
  clear B3 R3
  go_wp2_with fail
  refine (parsech_any (⟨#[68, 105, 103, 101, 115, 116, 32, 114, 101, 97, 108, 109, 61, 114, 44, 32, 110, 111, 110, 99, 101, 61, 110, 44, 32, 97, 108, 103, 111, 114, 105, 116, 104, 109, 61, 83, 72, 65, 45, 50, 53, 54, 44, 32, 113, 111, 112, 61, 34, 97, 117, 116, 104, 45, 105, 110, 116, 34]⟩ : ByteArray) _ (by decide) (HG.out.below ST.out.bw)).mono ?_
  rintro e X4 ⟨rfl, hb⟩
  rw [kn_ch4]
  replace ST := Lib.hid (ST.out.call hb)
  clear hb
  go_wp2_with (with_reducible refine wpList_storeN rfl 36 (.tmp 11) (.tmp 91) rfl [.string ⟨#[]⟩, .string ⟨#[]⟩, .string ⟨#[]⟩, .bool false, .bool false] [.string ⟨#[]⟩, .string ⟨#[]⟩, .string ⟨#[]⟩, .bool false, .bool false] rfl rfl (lenG _ _ _ _ _ _ _ _ _ _) (sizeCh _ _ _ _ _) (ch_one _ _ _ _ _) ?_)
  intro Y4 R4 B4
  replace ST := Lib.hid (ST.out.call B4.out)
  clear B4 R4
  go_wp2_with fail
  refine (parsech_any (⟨#[68, 105, 103, 101, 115, 116, 32, 34]⟩ : ByteArray) _ (by decide) (HG.out.below ST.out.bw)).mono ?_
  rintro e X5 ⟨rfl, hb⟩
  rw [kn_ch5]
  replace ST := Lib.hid (ST.out.call hb)
  clear hb
  go_wp2_with (with_reducible refine wpList_storeN rfl 36 (.tmp 13) (.tmp 95) rfl [.string ⟨#[]⟩, .string ⟨#[]⟩, .string ⟨#[]⟩, .bool false, .bool false] [.string ⟨#[]⟩, .string ⟨#[]⟩, .string ⟨#[]⟩, .bool false, .bool false] rfl rfl (lenG _ _ _ _ _ _ _ _ _ _) (sizeCh _ _ _ _ _) (ch_one _ _ _ _ _) ?_)
  intro Y5 R5 B5
  replace ST := Lib.hid (ST.out.call B5.out)
  clear B5 R5
  go_wp2_with fail
  refine (parsech_any (⟨#[32, 68, 73, 71, 69, 83, 84, 32, 114, 101, 97, 108, 109, 61, 34, 97, 32, 92, 34, 98, 34, 44, 32, 110, 111, 110, 99, 101, 61, 34, 34, 44, 32, 97, 108, 103, 111, 114, 105, 116, 104, 109, 61, 115, 104, 97, 45, 50, 53, 54, 44, 32, 113, 111, 112, 61, 34, 97, 117, 116, 104, 45, 105, 110, 116, 44, 32, 97, 117, 116, 104, 34, 44, 32, 83, 84, 65, 76, 69, 61, 84, 114, 117, 101, 44, 32, 109, 111, 114, 101, 61, 49]⟩ : ByteArray) _ (by decide) (HG.out.below ST.out.bw)).mono ?_
  rintro e X6 ⟨rfl, hb⟩
  rw [kn_ch6]
  replace ST := Lib.hid (ST.out.call hb)
  clear hb
  go_wp2_with (with_reducible refine wpList_storeN rfl 36 (.tmp 15) (.tmp 99) rfl [.string ⟨#[]⟩, .string ⟨#[]⟩, .string ⟨#[]⟩, .bool false, .bool false] [.string ⟨#[97, 32, 34, 98]⟩, .string ⟨#[]⟩, .string ⟨#[]⟩, .bool true, .bool true] rfl rfl (lenG _ _ _ _ _ _ _ _ _ _) (sizeCh _ _ _ _ _) (ch_one _ _ _ _ _) ?_)
  intro Y6 R6 B6
  replace ST := Lib.hid (ST.out.join B6.out (Nat.le_refl _) R6.out)
  clear B6 R6
  have sC := sameC (⟨#[97, 32, 34, 98]⟩ : ByteArray) ⟨#[]⟩ ⟨#[]⟩ true true
  have k0 := (ST.out.row (i := 0) rfl).cell 0; have k1 := (ST.out.row (i := 0) rfl).cell 1; have k2 := (ST.out.row (i := 0) rfl).cell 2; have k3 := (ST.out.row (i := 0) rfl).cell 3; have k4 := (ST.out.row (i := 0) rfl).cell 4
  simp only [List.getElem?_cons_succ, List.getElem?_cons_zero] at k0 k1 k2 k3 k4
  go_wp2_with fail
  clear k0 k1 k2 k3 k4
  clear sC
  refine (parsecr_any (⟨#[68, 105, 103, 101, 115, 116, 32, 117, 115, 101, 114, 110, 97, 109, 101, 61, 117, 44, 32, 114, 101, 97, 108, 109, 61, 114, 44, 32, 110, 111, 110, 99, 101, 61, 110, 44, 32, 117, 114, 105, 61, 117, 44, 32, 114, 101, 115, 112, 111, 110, 115, 101, 61, 120, 44, 32, 99, 110, 111, 110, 99, 101, 61, 99, 44, 32, 97, 108, 103, 111, 114, 105, 116, 104, 109, 61, 83, 72, 65, 45, 50, 53, 54, 44, 32, 113, 111, 112, 61, 97, 117, 116, 104, 44, 32, 110, 99, 61, 49]⟩ : ByteArray) _ (by decide)).mono ?_
  rintro e X10 ⟨rfl, hb⟩
  rw [kn_cr0]
  replace ST := Lib.hid (ST.out.call hb)
  clear hb
  go_wp2_with (with_reducible refine wpList_storeN rfl 23 (.tmp 18) (.tmp 134) rfl [.string ⟨#[]⟩, .string ⟨#[]⟩, .string ⟨#[]⟩, .string ⟨#[]⟩, .string ⟨#[]⟩, .string ⟨#[]⟩, .string ⟨#[]⟩, .int .i64 0, .bool false] [.string ⟨#[]⟩, .string ⟨#[]⟩, .string ⟨#[]⟩, .string ⟨#[]⟩, .string ⟨#[]⟩, .string ⟨#[]⟩, .string ⟨#[]⟩, .int .i64 0, .bool false] rfl rfl (rfl) (sizeL9 _ _ _ _ _ _ _ _ _) (cr9_one _ _ _ _ _ _ _ _ _) ?_)
  intro Y10 R10 B10
  replace ST := Lib.hid (ST.out.call B10.out)
  clear B10 R10
  go_wp2_with fail
  refine (parsecr_any (⟨#[68, 105, 103, 101, 115, 116, 32, 117, 115, 101, 114, 110, 97, 109, 101, 61, 117, 44, 32, 114, 101, 97, 108, 109, 61, 114, 44, 32, 110, 111, 110, 99, 101, 61, 110, 44, 32, 117, 114, 105, 61, 117, 44, 32, 114, 101, 115, 112, 111, 110, 115, 101, 61, 120, 44, 32, 99, 110, 111, 110, 99, 101, 61, 99, 44, 32, 97, 108, 103, 111, 114, 105, 116, 104, 109, 61, 83, 72, 65, 45, 50, 53, 54, 44, 32, 113, 111, 112, 61, 120, 44, 32, 110, 99, 61, 48, 48, 48, 48, 48, 48, 48, 49]⟩ : ByteArray) _ (by decide)).mono ?_
  rintro e X11 ⟨rfl, hb⟩
  rw [kn_cr1]
  replace ST := Lib.hid (ST.out.call hb)
  clear hb
  go_wp2_with (with_reducible refine wpList_storeN rfl 23 (.tmp 20) (.tmp 138) rfl [.string ⟨#[]⟩, .string ⟨#[]⟩, .string ⟨#[]⟩, .string ⟨#[]⟩, .string ⟨#[]⟩, .string ⟨#[]⟩, .string ⟨#[]⟩, .int .i64 0, .bool false] [.string ⟨#[]⟩, .string ⟨#[]⟩, .string ⟨#[]⟩, .string ⟨#[]⟩, .string ⟨#[]⟩, .string ⟨#[]⟩, .string ⟨#[]⟩, .int .i64 0, .bool false] rfl rfl (rfl) (sizeL9 _ _ _ _ _ _ _ _ _) (cr9_one _ _ _ _ _ _ _ _ _) ?_)
  intro Y11 R11 B11
  replace ST := Lib.hid (ST.out.call B11.out)
  clear B11 R11
  go_wp2_with fail
  refine (printcr_any ⟨#[]⟩ ⟨#[]⟩ ⟨#[]⟩ ⟨#[]⟩ ⟨#[]⟩ ⟨#[]⟩ ⟨#[]⟩ (-1) false _ (by decide) (by decide) (by decide) (by decide) (by decide) (by decide) (by decide)).mono ?_
  rintro e X20 ⟨rfl, hb⟩
  rw [kn_pcr]
  replace ST := Lib.hid (ST.out.call hb)
  clear hb
  go_wp2_with fail
  refine (printch_any ⟨#[0]⟩ ⟨#[]⟩ ⟨#[]⟩ false false _ (by decide) (by decide) (by decide)).mono ?_
  rintro e X21 ⟨rfl, hb⟩
  rw [kn_pch]
  replace ST := Lib.hid (ST.out.call hb)
  clear hb
  go_wp2_with fail
  refine (answer_any ⟨#[]⟩ ⟨#[]⟩ ⟨#[]⟩ ⟨#[]⟩ ⟨#[]⟩ ⟨#[]⟩ ⟨#[]⟩ ⟨#[]⟩ ⟨#[]⟩ ⟨#[]⟩ ⟨#[]⟩ ⟨#[]⟩ ⟨#[]⟩ ⟨#[]⟩ false false true 1 0 none none 0 0 0 0 [] [] _ (fun h => absurd h (by simp [hds])) rfl (by decide) (fun h hh => by cases hh) (fun y hy => by cases hy) rfl (by decide) (fun h => absurd h (by simp)) (fun _ => ⟨rfl, rfl⟩) (by decide) (by decide) (by decide) (by decide) (by decide) (by decide) (by decide) (by decide) (HK.out.below ST.out.bw) (SC.out.below ST.out.bw)).mono ?_
  rintro e X30 ⟨hb, he⟩
  rw [ansL_bad (by rfl)] at he
  dsimp only at he
  subst he
  replace ST := Lib.hid (ST.out.call hb)
  clear hb
  go_wp2_with (with_reducible refine wpList_storeN rfl 41 (.tmp 27) (.tmp 169) rfl [.string ⟨#[]⟩, .string ⟨#[]⟩, .int .i64 0, .string ⟨#[]⟩, .slice none 0 0, .slice none 0 0] [.string ⟨#[]⟩, .string ⟨#[]⟩, .int .i64 0, .string ⟨#[]⟩, .slice none 0 0, .slice none 0 0] rfl rfl (lenL6 _ _ _ _ _ _ _ _ _ _ _ _) (sizeL6 _ _ _ _ _ _) (p6_one _ _ _ _ _ _ _ _ _ _) ?_)
  intro Y30 R30 B30
  replace ST := Lib.hid (ST.out.call B30.out)
  clear B30 R30
  go_wp2_with fail
  refine (answer_any ⟨#[]⟩ ⟨#[]⟩ ⟨#[]⟩ ⟨#[]⟩ ⟨#[]⟩ ⟨#[]⟩ ⟨#[]⟩ ⟨#[]⟩ ⟨#[]⟩ ⟨#[]⟩ ⟨#[]⟩ ⟨#[]⟩ ⟨#[]⟩ ⟨#[]⟩ false false false 0 0 none none 0 0 0 0 [] [] _ (fun h => absurd h (by simp [hds])) rfl (by decide) (fun h hh => by cases hh) (fun y hy => by cases hy) rfl (by decide) (fun h => absurd h (by simp)) (fun _ => ⟨rfl, rfl⟩) (by decide) (by decide) (by decide) (by decide) (by decide) (by decide) (by decide) (by decide) (HK.out.below ST.out.bw) (SC.out.below ST.out.bw)).mono ?_
  rintro e X31 ⟨hb, he⟩
  rw [ansL_bad (by rfl)] at he
  dsimp only at he
  subst he
  replace ST := Lib.hid (ST.out.call hb)
  clear hb
  go_wp2_with (with_reducible refine wpList_storeN rfl 41 (.tmp 29) (.tmp 176) rfl [.string ⟨#[]⟩, .string ⟨#[]⟩, .int .i64 0, .string ⟨#[]⟩, .slice none 0 0, .slice none 0 0] [.string ⟨#[]⟩, .string ⟨#[]⟩, .int .i64 0, .string ⟨#[]⟩, .slice none 0 0, .slice none 0 0] rfl rfl (lenL6 _ _ _ _ _ _ _ _ _ _ _ _) (sizeL6 _ _ _ _ _ _) (p6_one _ _ _ _ _ _ _ _ _ _) ?_)
  intro Y31 R31 B31
  replace ST := Lib.hid (ST.out.call B31.out)
  clear B31 R31
  go_wp2_with fail
  have IS := Lib.hid (issue_any ⟨#[]⟩ ⟨#[]⟩ 0 0 (0) none 0 0 [] _ (fun h => absurd h (by simp [ncs])) rfl (by decide) (by decide) (by decide) (fun _ => ⟨rfl, rfl⟩) (HK.out.below ST.out.bw) (HP.out.below ST.out.bw))
  rw [(issL_bad (by rfl))] at IS
  refine IS.out.mono ?_
  clear IS
  rintro e X40 ⟨hb, A0, c0, rfl, hn0, hf0, hA0⟩
  dsimp only at hn0 hA0 ⊢
  rw [List.length_nil]
  replace ST := Lib.hid (ST.out.call hb)
  
  clear hb hn0 hf0 hA0
  replace ST := Lib.hid (show Mine w ((X40.alloc (.cells #[.string ⟨#[]⟩, .string ⟨#[]⟩, .int .i64 0, .int .i64 0, .slice none 0 0] 49)).alloc (.cells #[.string ⟨#[]⟩, .string ⟨#[]⟩, .string ⟨#[]⟩, .bool false, .bool false] 36)) _ _ by
    have h := (ST.out.alloc 49 [.string ⟨#[]⟩, .string ⟨#[]⟩, .int .i64 0, .int .i64 0, .slice none 0 0]).alloc 36 [.string ⟨#[]⟩, .string ⟨#[]⟩, .string ⟨#[]⟩, .bool false, .bool false]
    rw [World.size_alloc] at h
    exact h)
  go_wp2_with (with_reducible refine wpList_storeS ST.out 1 rfl 49 (.tmp 31) (.tmp 181) rfl [.string ⟨#[]⟩, .string ⟨#[]⟩, .int .i64 0, .int .i64 0, .slice A0 0 c0] _ rfl rfl rfl rfl (lenG _ _ _ _ _ _ _ _ _ _) (sizeG _ _ _ _ _) (g_one _ _ _ _ _ _ _) ?_)
  intro Y40 ST'
  clear ST
  go_wp2_with (with_reducible refine wpList_storeS ST'.out 0 rfl 36 (.tmp 32) (.tmp 182) rfl [.string ⟨#[]⟩, .string ⟨#[]⟩, .string ⟨#[]⟩, .bool false, .bool false] _ rfl rfl rfl rfl (lenG _ _ _ _ _ _ _ _ _ _) (sizeCh _ _ _ _ _) (ch_one _ _ _ _ _) ?_)
  intro Y50 ST
  clear ST'
  replace ST := Lib.hid (ST.out.tail.tail)
  go_wp2_with fail
  have IS := Lib.hid (issue_any ⟨#[]⟩ ⟨#[]⟩ 1 0 (-1) none 0 0 [] _ (fun h => absurd h (by simp [ncs])) rfl (by decide) (by decide) (by decide) (fun _ => ⟨rfl, rfl⟩) (HK.out.below ST.out.bw) (HP.out.below ST.out.bw))
  rw [(issL_bad (by rfl))] at IS
  refine IS.out.mono ?_
  clear IS
  rintro e X41 ⟨hb, A1, c1, rfl, hn1, hf1, hA1⟩
  dsimp only at hn1 hA1 ⊢
  rw [List.length_nil]
  replace ST := Lib.hid (ST.out.call hb)
  
  clear hb hn1 hf1 hA1
  replace ST := Lib.hid (show Mine w ((X41.alloc (.cells #[.string ⟨#[]⟩, .string ⟨#[]⟩, .int .i64 0, .int .i64 0, .slice none 0 0] 49)).alloc (.cells #[.string ⟨#[]⟩, .string ⟨#[]⟩, .string ⟨#[]⟩, .bool false, .bool false] 36)) _ _ by
    have h := (ST.out.alloc 49 [.string ⟨#[]⟩, .string ⟨#[]⟩, .int .i64 0, .int .i64 0, .slice none 0 0]).alloc 36 [.string ⟨#[]⟩, .string ⟨#[]⟩, .string ⟨#[]⟩, .bool false, .bool false]
    rw [World.size_alloc] at h
    exact h)
  go_wp2_with (with_reducible refine wpList_storeS ST.out 1 rfl 49 (.tmp 34) (.tmp 187) rfl [.string ⟨#[]⟩, .string ⟨#[]⟩, .int .i64 0, .int .i64 0, .slice A1 0 c1] _ rfl rfl rfl rfl (lenG _ _ _ _ _ _ _ _ _ _) (sizeG _ _ _ _ _) (g_one _ _ _ _ _ _ _) ?_)
  intro Y41 ST'
  clear ST
  go_wp2_with (with_reducible refine wpList_storeS ST'.out 0 rfl 36 (.tmp 35) (.tmp 188) rfl [.string ⟨#[]⟩, .string ⟨#[]⟩, .string ⟨#[]⟩, .bool false, .bool false] _ rfl rfl rfl rfl (lenG _ _ _ _ _ _ _ _ _ _) (sizeCh _ _ _ _ _) (ch_one _ _ _ _ _) ?_)
  intro Y51 ST
  clear ST'
  replace ST := Lib.hid (ST.out.tail.tail)
  go_wp2_with fail
  have IS := Lib.hid (issue_any ⟨#[]⟩ ⟨#[]⟩ 1 0 (0) none 0 0 [] _ (fun h => absurd h (by simp [ncs])) rfl (by decide) (by decide) (by decide) (fun _ => ⟨rfl, rfl⟩) (HK.out.below ST.out.bw) (HP.out.below ST.out.bw))
  rw [kn_iss] at IS
  generalize txtI ⟨#[]⟩ 0 0 = TX at *
  refine IS.out.mono ?_
  clear IS
  rintro e X42 ⟨hb, A2, c2, rfl, hn2, hf2, hA2⟩
  dsimp only at hn2 hA2 ⊢
  rw [List.length_singleton]
  replace ST := Lib.hid ((ST.out.call hb).add (stab_rds hA2 (fun b o s e => ST.out.fresh (hf2 b o s e))))
  have HNL := Lib.hid hn2
  clear hb hn2 hf2 hA2
  replace ST := Lib.hid (show Mine w ((X42.alloc (.cells #[.string ⟨#[]⟩, .string ⟨#[]⟩, .int .i64 0, .int .i64 0, .slice none 0 0] 49)).alloc (.cells #[.string ⟨#[]⟩, .string ⟨#[]⟩, .string ⟨#[]⟩, .bool false, .bool false] 36)) _ _ by
    have h := (ST.out.alloc 49 [.string ⟨#[]⟩, .string ⟨#[]⟩, .int .i64 0, .int .i64 0, .slice none 0 0]).alloc 36 [.string ⟨#[]⟩, .string ⟨#[]⟩, .string ⟨#[]⟩, .bool false, .bool false]
    rw [World.size_alloc] at h
    exact h)
  go_wp2_with (with_reducible refine wpList_storeS ST.out 1 rfl 49 (.tmp 37) (.tmp 193) rfl [.string ⟨#[]⟩, .string ⟨#[]⟩, .int .i64 1, .int .i64 1, .slice A2 1 c2] _ rfl rfl rfl rfl (lenG _ _ _ _ _ _ _ _ _ _) (sizeG _ _ _ _ _) (g_one _ _ _ _ _ _ _) ?_)
  intro Y42 ST'
  clear ST
  go_wp2_with (with_reducible refine wpList_storeS ST'.out 0 rfl 36 (.tmp 38) (.tmp 194) rfl [.string ⟨#[]⟩, .string TX, .string ⟨#[]⟩, .bool true, .bool false] _ rfl rfl rfl rfl (lenG _ _ _ _ _ _ _ _ _ _) (sizeCh _ _ _ _ _) (ch_one _ _ _ _ _) ?_)
  intro Y52 ST
  clear ST'
  replace ST := Lib.hid (ST.out.tail)
  go_wp2_with (with_reducible refine wpList_loadR rfl 49 (.tmp 37) rfl (ST.out.row (i := 0) rfl) rfl Tryz.underlying49 rfl (sizeG _ _ _ _ _) ?_)
  have VQ := Lib.hid (verify_any ⟨#[]⟩ ⟨#[]⟩ ⟨#[]⟩ ⟨#[]⟩ ⟨#[]⟩ 1 1 0 0 A2 none none none 1 c2 0 0 0 0 0 0 [⟨TX, 0, 0⟩] [] [] [] _ (ST.out.fact (i := 0) rfl) rfl (by decide) (fun h => absurd h (by simp [hds])) rfl (by decide) (fun h hh => by cases hh) (fun h => absurd h (by simp [hds])) rfl (by decide) (fun h hh => by cases hh) (fun y hy => by cases hy) rfl (by decide) (fun h => absurd h (by simp)) (by decide) (by decide) (by decide) (by decide) HNL.out (HK.out.below ST.out.bw) (SC.out.below ST.out.bw))
  rw [kn_ver0] at VQ
  refine VQ.out.mono ?_
  clear VQ
  rintro e X50 ⟨hb, A9, c9, rfl, _⟩
  dsimp only
  rw [List.length_singleton]
  replace ST := Lib.hid (ST.out.call hb)
  clear hb
  go_wp2_with (with_reducible refine wpList_storeN rfl 49 (.tmp 40) (.tmp 200) rfl [.string ⟨#[]⟩, .string ⟨#[]⟩, .int .i64 0, .int .i64 0, .slice none 0 0] [.string ⟨#[]⟩, .string ⟨#[]⟩, .int .i64 1, .int .i64 1, .slice A9 1 c9] rfl rfl (lenG _ _ _ _ _ _ _ _ _ _) (sizeG _ _ _ _ _) (g_one _ _ _ _ _ _ _) ?_)
  intro Y60 R60 B60
  replace ST := Lib.hid (ST.out.call B60.out)
  clear B60 R60
  go_wp2_with (with_reducible refine wpList_loadR rfl 49 (.tmp 37) rfl (ST.out.row (i := 0) rfl) rfl Tryz.underlying49 rfl (sizeG _ _ _ _ _) ?_)
  have VQ := Lib.hid (verify_any ⟨#[]⟩ ⟨#[]⟩ ⟨#[]⟩ ⟨#[]⟩ ⟨#[]⟩ 1 1 200 0 A2 none none none 1 c2 0 0 0 0 0 0 [⟨TX, 0, 0⟩] [] [] [] _ (ST.out.fact (i := 0) rfl) rfl (by decide) (fun h => absurd h (by simp [hds])) rfl (by decide) (fun h hh => by cases hh) (fun h => absurd h (by simp [hds])) rfl (by decide) (fun h hh => by cases hh) (fun y hy => by cases hy) rfl (by decide) (fun h => absurd h (by simp)) (by decide) (by decide) (by decide) (by decide) HNL.out (HK.out.below ST.out.bw) (SC.out.below ST.out.bw))
  rw [kn_ver1] at VQ
  refine VQ.out.mono ?_
  clear VQ
  rintro e X51 ⟨hb, A9, c9, rfl, _⟩
  dsimp only
  rw [List.length_nil]
  replace ST := Lib.hid (ST.out.call hb)
  clear hb
  go_wp2_with (with_reducible refine wpList_storeN rfl 49 (.tmp 43) (.tmp 207) rfl [.string ⟨#[]⟩, .string ⟨#[]⟩, .int .i64 0, .int .i64 0, .slice none 0 0] [.string ⟨#[]⟩, .string ⟨#[]⟩, .int .i64 0, .int .i64 0, .slice A9 0 c9] rfl rfl (lenG _ _ _ _ _ _ _ _ _ _) (sizeG _ _ _ _ _) (g_one _ _ _ _ _ _ _) ?_)
  intro Y61 R61 B61
  replace ST := Lib.hid (ST.out.call B61.out)
  clear B61 R61
  have e4 := (ST.out.row (i := 0) rfl).cell 4
  simp only [List.getElem?_cons_succ, List.getElem?_cons_zero] at e4
  go_wp2_with fail
  clear e4
  refine (valid_any ⟨#[]⟩ ⟨#[1]⟩ 1 0 none 0 0 [] _ rfl (fun h => absurd h (by simp [ncs])) (by decide) (by decide) (by decide)).mono ?_
  rintro e X70 ⟨rfl, hb⟩
  rw [kn_val]
  replace ST := Lib.hid (ST.out.call hb)
  clear hb
  go_wp2_with fail
  refine (awake_any _ (HG.out.below ST.out.bw)).mono ?_
  rintro e X71 ⟨rfl, hb⟩
  replace ST := Lib.hid (ST.out.call hb)
  clear hb
  go_wp2_with fail
  go_ret
  exact ⟨rfl, ST.out.bw⟩
end Go.Proofs.YtfhbpgickkibmaaGreatDoor
