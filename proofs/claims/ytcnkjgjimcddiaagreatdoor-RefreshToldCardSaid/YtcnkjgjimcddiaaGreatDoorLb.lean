/- The library's contracts in my words: Trim, TrimRight, IndexByte, Join, Split, Contains. -/
import Derived.Test.YtcnkjgjimcddiaaGreatDoorLa
import Derived.Test.YtcnkjgjimcddiaaGreatDoorCc
import Derived.Test.YtcnkjgjimcddiaaGreatDoorPe
import Derived.Shelf.Strings.SlTrimAscii
namespace Go.Proofs.YtcnkjgjimcddiaaGreatDoor
open Go.RowKit

theorem mk_str {l : List UInt8} {r : List Int} (h : bl l = r) : (⟨l.toArray⟩ : ByteArray) = strOfNums r := by
  have hb : By r := h ▸ bl_by l
  apply byteL_inj
  rw [byteL_str hb, byteL_mk, h]
theorem trimlib_any (s : ByteArray) (w : World) (hs : s.size ≤ 4000000) : Calls Tryz.prog 68 #[.string s, .string ⟨#[32, 9]⟩] w fun e w' => e = .returned (.string (strOfNums (trimB (byteL s)))) ∧ Below w.heap.size w w' :=
  (Any.strings_Trim_laid Tryz.lays160 (by kernel_rfl) s ⟨#[32, 9]⟩ w (by omega) (by decide) (ascii_of_all (by decide))).mono fun e w' ⟨he, hb⟩ => ⟨by rw [he, mk_str (bl_trim s.data.toList)]; rfl, hb⟩
theorem trimright_any (s : ByteArray) (w : World) (hs : s.size ≤ 4000000) : Calls Tryz.prog 141 #[.string s, .string ⟨#[32, 9]⟩] w fun e w' => e = .returned (.string (strOfNums (rtrim (byteL s)))) ∧ Below w.heap.size w w' :=
  (Any.strings_TrimRight_laid Tryz.lays162 (by kernel_rfl) s ⟨#[32, 9]⟩ w (by omega) (by decide) (ascii_of_all (by decide))).mono fun e w' ⟨he, hb⟩ => ⟨by rw [he, mk_str (bl_trimRight s.data.toList)]; rfl, hb⟩
/-- The library's variable MaxLen holds a number. -/
def GM (w : World) : Prop := 7 < w.heap.size ∧ ∃ m : Int, w.cell? ⟨7, 0, none⟩ = some (.int .i64 m)
theorem GM.below {w w' : World} (h : GM w) (hb : Below w.heap.size w w') : GM w' := by
  obtain ⟨h0, m, hm⟩ := h
  exact ⟨Nat.lt_of_lt_of_le h0 hb.size, m, (hb.cell (p := ⟨7, 0, none⟩) h0).trans hm⟩
def SplitP (xs : List Int) (c : Int) (w : World) (e : Ending) (w' : World) : Prop := ∃ zs : List ByteArray, zs.map byteL = cutL c xs ∧ e = .returned (.slice (some ⟨w.heap.size, 0, none⟩) zs.length zs.length) ∧ w' = w.alloc (.cells (zs.map Value.string).toArray 9)
theorem indexByte_bl (c : UInt8) : ∀ l : List UInt8, Lib.indexByte l c = if (bl l).length ≤ skipTo (fun x => x != (c.toNat : Int)) (bl l) 0 then -1 else (skipTo (fun x => x != (c.toNat : Int)) (bl l) 0 : Int)
  | [] => rfl
  | b :: l => by
    have ih := indexByte_bl c l
    have hb : bl (b :: l) = (b.toNat : Int) :: bl l := rfl
    rw [Lib.indexByte, hb]
    unfold skipTo at ih ⊢
    rw [List.drop_zero] at ih ⊢
    rw [List.takeWhile_cons]
    by_cases h : b = c
    · subst h
      simp
    · have hne : ((b.toNat : Int) != (c.toNat : Int)) = true := by
        rw [bne_iff_ne]
        exact fun e => h (UInt8.toNat_inj.1 (by omega))
      rw [if_neg (by simpa using h), if_pos hne, List.length_cons, List.length_cons, ih]
      by_cases h2 : (bl l).length ≤ 0 + ((bl l).takeWhile fun x => x != (c.toNat : Int)).length
      · rw [if_pos h2, if_pos (by rfl), if_pos (by omega)]
      · rw [if_neg h2, if_neg (by simp <;> omega), if_neg (by omega)]
        omega
theorem indexbyte_any (s : ByteArray) (c : UInt8) (w : World) : Calls Tryz.prog 124 #[.string s, .int .u8 (c.toNat : Int)] w fun e w' => e = .returned (.int .i64 (if s.size ≤ skipTo (fun x => x != (c.toNat : Int)) (byteL s) 0 then -1 else (skipTo (fun x => x != (c.toNat : Int)) (byteL s) 0 : Int))) ∧ w = w' :=
  (Tryz.strings_IndexByte s (c.toNat : Int) w).mono fun e w' ⟨he, hw⟩ => ⟨by
    rw [he]
    have h := indexByte_bl c s.data.toList
    rw [show (bl s.data.toList).length = s.size from byteL_len s] at h
    have hc : ((c.toNat : Int)).toNat.toUInt8 = c := Lib.byte_back c
    first | (rw [hc, h]; rfl) | (rw [h]; rfl) | (simp only [hc]; rw [h]; rfl), hw.symm⟩
/-- A slice of texts that the call made. -/
structure SX (w : World) (v : Value) (zs : List ByteArray) (wr : World) : Prop where
  o : wr.ownsRow w.heap.size 9 1 v zs.length (zs.map Value.string)
  bw : Below w.heap.size w wr
end Go.Proofs.YtcnkjgjimcddiaaGreatDoor
