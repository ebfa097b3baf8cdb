/- The law HashKnown. -/
import Derived.Test.YtldonfgdomeacaaDoorK
namespace Go.Proofs.YtldonfgdomeacaaDoor
open Go.RowKit

theorem good_0AfF : goodU (byteL ⟨#[48, 65, 102, 70]⟩) = true := by decide +kernel
theorem bad_0 : goodU (byteL ⟨#[48]⟩) = false := by decide +kernel
theorem un_0AfF : unL (byteL ⟨#[48, 65, 102, 70]⟩) 2 = [10, 255] := by decide +kernel
theorem empty_text : textH [] = [101, 51, 98, 48, 99, 52, 52, 50, 57, 56, 102, 99, 49, 99, 49, 52, 57, 97, 102, 98, 102, 52, 99, 56, 57, 57, 54, 102, 98, 57, 50, 52, 50, 55, 97, 101, 52, 49, 101, 52, 54, 52, 57, 98, 57, 51, 52, 99, 97, 52, 57, 53, 57, 57, 49, 98, 55, 56, 53, 50, 98, 56, 53, 53] := by decide +kernel
theorem empty_str : strOfNums (textH (byteL ⟨#[]⟩)) = ⟨#[101, 51, 98, 48, 99, 52, 52, 50, 57, 56, 102, 99, 49, 99, 49, 52, 57, 97, 102, 98, 102, 52, 99, 56, 57, 57, 54, 102, 98, 57, 50, 52, 50, 55, 97, 101, 52, 49, 101, 52, 54, 52, 57, 98, 57, 51, 52, 99, 97, 52, 57, 53, 57, 57, 49, 98, 55, 56, 53, 50, 98, 56, 53, 53]⟩ := by
  rw [show byteL ⟨#[]⟩ = [] from rfl, empty_text]; rfl
theorem long_text : textH [97, 98, 99, 100, 98, 99, 100, 101, 99, 100, 101, 102, 100, 101, 102, 103, 101, 102, 103, 104, 102, 103, 104, 105, 103, 104, 105, 106, 104, 105, 106, 107, 105, 106, 107, 108, 106, 107, 108, 109, 107, 108, 109, 110, 108, 109, 110, 111, 109, 110, 111, 112, 110, 111, 112, 113] = [50, 52, 56, 100, 54, 97, 54, 49, 100, 50, 48, 54, 51, 56, 98, 56, 101, 53, 99, 48, 50, 54, 57, 51, 48, 99, 51, 101, 54, 48, 51, 57, 97, 51, 51, 99, 101, 52, 53, 57, 54, 52, 102, 102, 50, 49, 54, 55, 102, 54, 101, 99, 101, 100, 100, 52, 49, 57, 100, 98, 48, 54, 99, 49] := by decide +kernel
theorem long_str : strOfNums (textH (byteL ⟨#[97, 98, 99, 100, 98, 99, 100, 101, 99, 100, 101, 102, 100, 101, 102, 103, 101, 102, 103, 104, 102, 103, 104, 105, 103, 104, 105, 106, 104, 105, 106, 107, 105, 106, 107, 108, 106, 107, 108, 109, 107, 108, 109, 110, 108, 109, 110, 111, 109, 110, 111, 112, 110, 111, 112, 113]⟩)) = ⟨#[50, 52, 56, 100, 54, 97, 54, 49, 100, 50, 48, 54, 51, 56, 98, 56, 101, 53, 99, 48, 50, 54, 57, 51, 48, 99, 51, 101, 54, 48, 51, 57, 97, 51, 51, 99, 101, 52, 53, 57, 54, 52, 102, 102, 50, 49, 54, 55, 102, 54, 101, 99, 101, 100, 100, 52, 49, 57, 100, 98, 48, 54, 99, 49]⟩ := by
  rw [show byteL ⟨#[97, 98, 99, 100, 98, 99, 100, 101, 99, 100, 101, 102, 100, 101, 102, 103, 101, 102, 103, 104, 102, 103, 104, 105, 103, 104, 105, 106, 104, 105, 106, 107, 105, 106, 107, 108, 106, 107, 108, 109, 107, 108, 109, 110, 108, 109, 110, 111, 109, 110, 111, 112, 110, 111, 112, 113]⟩ = [97, 98, 99, 100, 98, 99, 100, 101, 99, 100, 101, 102, 100, 101, 102, 103, 101, 102, 103, 104, 102, 103, 104, 105, 103, 104, 105, 106, 104, 105, 106, 107, 105, 106, 107, 108, 106, 107, 108, 109, 107, 108, 109, 110, 108, 109, 110, 111, 109, 110, 111, 112, 110, 111, 112, 113] from rfl, long_text]; rfl
/-- string(b) of a row. -/
theorem conv_row {w : World} {b n cap : Nat} {T : TypeId} {l : List Int} (h : Row w b T (U8 l)) (hn : l.length = n) : (convert 22 9 (.slice (some ⟨b, 0, none⟩) n cap)).run Tryd.prog w = .ok (.string (strOfNums l)) w :=
  run_convert_bytes_arg (P := Tryd.prog) w 22 5 Tryd.underlying22 Tryd.underlying5 b 0 n cap l hn (fun i hi => by
    rw [Nat.zero_add, h.cell i]
    exact U8_get (getD_some (by omega))) 9 Tryd.underlying9
set_option maxRecDepth 100000 in
theorem known_any (w : World) (hK : KC w) : Calls Tryd.prog 10 #[] w fun e w' => e = .returned (.bool true) ∧ Below w.heap.size w w' := by
  have HK := Lib.hid hK
  clear hK
  go_enter Tryd.func10, Tryd.ntmps10
  go_wp2_with fail
  refine (unhex_any ⟨#[48, 65, 102, 70]⟩ w (by decide)).mono ?_
  rintro e w1 ⟨hb1, he1⟩
  rw [good_0AfF, if_pos rfl, show (byteL ⟨#[48, 65, 102, 70]⟩).length / 2 = 2 from rfl, un_0AfF] at he1
  obtain ⟨rfl, hr1⟩ := he1
  have BW := Lib.hid hb1; have R := Lib.hid hr1
  clear hb1 hr1
  go_wp2_with fail
  refine (unhex_any ⟨#[48]⟩ w1 (by decide)).mono ?_
  rintro e w2 ⟨hb2, he2⟩
  rw [bad_0, if_neg (by decide)] at he2
  subst he2
  have BW2 := Lib.hid (BW.out.trans (hb2.mono BW.out.size)); have R2 := Lib.hid (R.out.below hb2)
  clear hb2 BW R
  go_wp2_with fail
  refine (text_any ⟨#[]⟩ w2 (by decide) (HK.out.below BW2.out)).mono ?_
  rintro e w3 ⟨rfl, hb3⟩
  have BW3 := Lib.hid (BW2.out.trans (hb3.mono BW2.out.size)); have R3 := Lib.hid (R2.out.below hb3)
  clear hb3 BW2 R2
  rw [empty_str]
  go_wp2_with fail
  refine (text_any ⟨#[97, 98, 99, 100, 98, 99, 100, 101, 99, 100, 101, 102, 100, 101, 102, 103, 101, 102, 103, 104, 102, 103, 104, 105, 103, 104, 105, 106, 104, 105, 106, 107, 105, 106, 107, 108, 106, 107, 108, 109, 107, 108, 109, 110, 108, 109, 110, 111, 109, 110, 111, 112, 110, 111, 112, 113]⟩ w3 (by decide) (HK.out.below BW3.out)).mono ?_
  rintro e w4 ⟨rfl, hb4⟩
  have BW4 := Lib.hid (BW3.out.trans (hb4.mono BW3.out.size)); have R4 := Lib.hid (R3.out.below hb4)
  clear hb4 BW3 R3
  rw [long_str]
  have cv1 := conv_row (n := 2) (cap := 2) R4.out rfl
  have cv2 : (convert 22 9 (.slice (some ⟨w4.heap.size, 0, none⟩) 2 2)).run Tryd.prog (w4.alloc (.cells #[.int .u8 10, .int .u8 255] 5)) = .ok (.string (strOfNums [10, 255])) (w4.alloc (.cells #[.int .u8 10, .int .u8 255] 5)) := conv_row (Row.new w4 5 (U8 [10, 255])) rfl
  go_wp2_with fail
  refine (lives_any _ ((HK.out.below BW4.out).below ((Below.refl _ _).alloc (Nat.le_refl _) _))).mono ?_
  rintro e w5 ⟨rfl, hb5⟩
  have BW5 := Lib.hid (show Below w.heap.size w (w4.alloc (.cells #[.int .u8 10, .int .u8 255] 5)) from BW4.out.alloc BW4.out.size _)
  have BW6 := Lib.hid (BW5.out.trans (hb5.mono BW5.out.size))
  clear hb5 BW4 BW5 R4 cv1 cv2
  go_wp2_with fail
  go_ret
  exact ⟨rfl, BW6.out⟩
end Go.Proofs.YtldonfgdomeacaaDoor
