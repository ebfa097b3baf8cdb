/- Contract: auth.count. -/
import Derived.Test.YtfhbpgickkibmaaGreatDoorDe
import Derived.Test.YtfhbpgickkibmaaGreatDoorPj
namespace Go.Proofs.YtfhbpgickkibmaaGreatDoor
open Go.RowKit

theorem Bs.row {w : World} {b : Nat} {T : TypeId} {xs : List Int} (h : Row w b T (U8 xs)) : Bs w w.heap.size (some ⟨b, 0, none⟩) xs := fun _ => ⟨_, rfl, h.lt, fun j x hx => by
  rw [Addr.add_mid, Nat.zero_add, h.cell j]
  exact U8_get hx⟩
set_option maxRecDepth 100000 in
theorem count_any (k : Int) (w : World) (h0 : 0 ≤ k) (h1 : k ≤ 4294967295) : Calls Tryz.prog 48 #[.int .i64 k] w fun e w' => e = .returned (.string (strOfNums (hex8 k))) ∧ Below w.heap.size w w' := by
  have HE := Lib.hid (hex8_eq k h0 h1)
  go_enter Tryz.func48, Tryz.ntmps48
  go_wp2_with fail
  rw [show k / 16777216 = k / 16777216 % 256 by omega]
  have hb : By [k / 16777216 % 256, k / 65536 % 256, k / 256 % 256, k % 256] := fun x hx => by
    simp at hx
    rcases hx with rfl | rfl | rfl | rfl <;> omega
  have hA := Bs.row (Row.new w 5 (U8 [k / 16777216 % 256, k / 65536 % 256, k / 256 % 256, k % 256]))
  refine (hex_any _ 4 4 [k / 16777216 % 256, k / 65536 % 256, k / 256 % 256, k % 256] _ hb hA rfl (Nat.le_refl _) (by decide)).mono ?_
  rintro e w1 ⟨rfl, hb1⟩
  have B1 := Lib.hid (bthen ((Below.refl w.heap.size w).alloc (Nat.le_refl _) _) hb1)
  clear hb1 hA hb
  rw [HE.out]
  go_wp2_with fail
  go_ret
  exact ⟨rfl, B1.out⟩
end Go.Proofs.YtfhbpgickkibmaaGreatDoor
