/- Contracts: lexis.piece, the reference 01's piece. -/
import Derived.Test.YtcnkjgjimcddiaaGreatDoorLb
import Derived.Test.YtcnkjgjimcddiaaGreatDoorMc
import Derived.Test.YtcnkjgjimcddiaaGreatDoorCe
namespace Go.Proofs.YtcnkjgjimcddiaaGreatDoor
open Go.RowKit

theorem sizeP : (Tryz.prog.info? 150).map (·.size) = some 2 := by kernel_rfl
theorem subL_extract (s : ByteArray) (a b : Nat) : byteL (s.extract a b) = subL (byteL s) a b := byteL_extract s a b
theorem sub_size (s : ByteArray) {a b : Nat} (hb : b ≤ s.size) : (s.extract a b).size = b - a := by rw [ByteArray.size_extract]; omega
set_option maxRecDepth 100000 in
theorem piece_any (s : ByteArray) (b e : Nat) (w : World) (hbe : b ≤ e) (he : e ≤ s.size) (hs : s.size ≤ 4000000) :
    Calls Tryz.prog 125 #[.string s, .int .i64 b, .int .i64 e] w fun en w' => en = .returned (.agg #[.int .i64 ((pieceOf (byteL s) b e).1 : Nat), .string (strOfNums (pieceOf (byteL s) b e).2)]) ∧ Below w.heap.size w w' := by
  have HL := Lib.hid (byteL_len s)
  have PA := Lib.hid (piece_at (xs := byteL s) hbe)
  have PT := Lib.hid (piece_text (xs := byteL s) hbe (by rw [byteL_len]; exact he))
  have CL := Lib.hid (show clip (b : Int) s.size = b by unfold clip; omega)
  have KB := skip_ge isBlank (byteL s) b
  generalize pieceOf (byteL s) b e = R at *
  go_enter Tryz.func125, Tryz.ntmps125
  go_wp2_with fail
  refine (blanks_any s b _ (by omega) (by omega)).mono ?_
  rintro e1 w1 ⟨rfl, hb1⟩
  rw [CL.out]
  have R1 := Lib.hid ((Row.new w 150 [.int .i64 0, .string ⟨#[]⟩]).below hb1)
  have B1 := Lib.hid (((Below.refl w.heap.size w).alloc (Nat.le_refl _) (.cells #[.int .i64 0, .string ⟨#[]⟩] 150)).trans (hb1.mono (by simp)))
  clear hb1
  generalize skipTo isBlank (byteL s) b = k at *
  obtain ⟨m, hm⟩ : ∃ m, m = min k e := ⟨_, rfl⟩
  have MM := Lib.hid hm
  have hme : m ≤ e := by omega
  have hbm : b ≤ m := by omega
  have MI : min (k : Int) (e : Int) = (m : Int) := by omega
  clear hm
  go_wp2_with fail
  clear MI
  refine (trimright_any _ _ (by rw [sub_size s he]; omega)).mono ?_
  rintro e2 w2 ⟨rfl, hb2⟩
  have R2 := Lib.hid (R1.out.below hb2)
  have B2 := Lib.hid (B1.out.trans (hb2.mono B1.out.size))
  clear hb2 R1 B1
  have TE := Lib.hid (show rtrim (byteL (s.extract m e)) = R.2 by rw [subL_extract, ← PT.out, ← MM.out])
  have AE := Lib.hid (show m = R.1 by rw [MM.out, PA.out])
  rw [TE.out]
  generalize hTT : strOfNums R.2 = T at *
  have TT := Lib.hid hTT
  clear hTT
  have KEY := Lib.hid (R2.out.setAll [.int .i64 m, .string T] rfl)
  go_wp2_with (with_reducible refine wpList_store_mid rfl 150 (.tmp 6) (.tmp 19) rfl w.heap.size 0 _ rfl rfl ?ht ?hi ?h1 ?_)
  case ht => exact R2.out.there
  case hi => exact sizeP
  case h1 => simp [Value.oneCell']
  exact bodyPost_ret (results_cell rfl _ _ _ w.heap.size [.int .i64 m, .string T] _ rfl KEY.out.range Tryz.underlying150 rfl sizeP) rfl ⟨by rw [← AE.out, TT.out]; try (first | rfl | rw [Int.natCast_add]), below_setCells (Nat.le_refl _) _ _ _ B2.out⟩
end Go.Proofs.YtcnkjgjimcddiaaGreatDoor
