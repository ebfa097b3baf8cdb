/- The contract of lives. -/
import Derived.Test.YtldonfgdomeacaaDoorJ
namespace Go.Proofs.YtldonfgdomeacaaDoor
open Go.RowKit

def abcT : List Int := [98, 97, 55, 56, 49, 54, 98, 102, 56, 102, 48, 49, 99, 102, 101, 97, 52, 49, 52, 49, 52, 48, 100, 101, 53, 100, 97, 101, 50, 50, 50, 51, 98, 48, 48, 51, 54, 49, 97, 51, 57, 54, 49, 55, 55, 97, 57, 99, 98, 52, 49, 48, 102, 102, 54, 49, 102, 50, 48, 48, 49, 53, 97, 100]
theorem abc_text : textH [97, 98, 99] = abcT := by decide +kernel
theorem abc_str : strOfNums (textH (byteL ⟨#[97, 98, 99]⟩)) = ⟨#[98, 97, 55, 56, 49, 54, 98, 102, 56, 102, 48, 49, 99, 102, 101, 97, 52, 49, 52, 49, 52, 48, 100, 101, 53, 100, 97, 101, 50, 50, 50, 51, 98, 48, 48, 51, 54, 49, 97, 51, 57, 54, 49, 55, 55, 97, 57, 99, 98, 52, 49, 48, 102, 102, 54, 49, 102, 50, 48, 48, 49, 53, 97, 100]⟩ := by
  rw [show byteL ⟨#[97, 98, 99]⟩ = [97, 98, 99] from rfl, abc_text]; rfl
theorem hex_str : strOfNums (hexL [0, 10, 255]) = ⟨#[48, 48, 48, 97, 102, 102]⟩ := by decide +kernel
theorem bad_0g : goodU (byteL ⟨#[48, 103]⟩) = false := by decide +kernel
set_option maxRecDepth 100000 in
theorem lives_any (w : World) (hK : KC w) : Calls Tryd.prog 11 #[] w fun e w' => e = .returned (.bool true) ∧ Below w.heap.size w w' := by
  have HK := Lib.hid hK
  clear hK
  go_enter Tryd.func11, Tryd.ntmps11
  go_wp2_with fail
  refine (unhex_any ⟨#[48, 103]⟩ w (by decide)).mono ?_
  rintro e w1 ⟨hb1, he1⟩
  rw [bad_0g, if_neg (by decide)] at he1
  subst he1
  have BW := Lib.hid hb1
  clear hb1
  go_wp2_with fail
  refine (text_any ⟨#[97, 98, 99]⟩ w1 (by decide) (HK.out.below BW.out)).mono ?_
  rintro e w2 ⟨rfl, hb2⟩
  have BW2 := Lib.hid (BW.out.trans (hb2.mono BW.out.size))
  clear hb2 BW
  rw [abc_str]
  go_wp2_with fail
  refine (hex_any (some ⟨w2.heap.size, 0, none⟩) 3 3 [0, 10, 255] _ (fun x hx => by simp at hx; omega) (fun _ => ⟨_, rfl, (Row.new w2 5 (U8 [0, 10, 255])).lt, fun j x hx => by
    rw [Addr.add_mid, Nat.zero_add]
    exact ((Row.new w2 5 (U8 [0, 10, 255])).cell j).trans (U8_get hx)⟩) rfl (by decide) (by decide)).mono ?_
  rintro e w3 ⟨rfl, hb3⟩
  have BW3 := Lib.hid (show Below w.heap.size w (w2.alloc (.cells (U8 [0, 10, 255]).toArray 5)) from BW2.out.alloc BW2.out.size _)
  have BW4 := Lib.hid (BW3.out.trans (hb3.mono BW3.out.size))
  clear hb3 BW2 BW3
  rw [hex_str]
  go_wp2_with fail
  go_ret
  exact ⟨rfl, BW4.out⟩
end Go.Proofs.YtldonfgdomeacaaDoor
