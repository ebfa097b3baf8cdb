/- Contracts: quality; the reference 07's get, has, words, among. -/
import Derived.Test.YtfhbpgickkibmaaGreatDoorCv
import Derived.Test.YtfhbpgickkibmaaGreatDoorPj
namespace Go.Proofs.YtfhbpgickkibmaaGreatDoor
open Go.RowKit

def QUAL (b : Bool) : List Int := if b = true then [97, 117, 116, 104, 45, 105, 110, 116] else [97, 117, 116, 104]
theorem quality_any (b : Bool) (w : World) : Calls Tryz.prog 39 #[.bool b] w fun e w' => e = .returned (.string (strOfNums (QUAL b))) ∧ w = w' := by
  go_enter Tryz.func39, Tryz.ntmps39
  cases b
  · go_wp2
    go_ret
    exact ⟨rfl, rfl⟩
  · go_wp2
    go_ret
    exact ⟨rfl, rfl⟩
def gotL (ps : List Prm) (nm : List Int) : List Int := (getP ps nm).getD []
theorem gets_any (A : Option Addr) (n c : Nat) (ps : List Prm) (nm : ByteArray) (w : World) (hA : Rds w w.heap.size A (prms ps)) (hn : ps.length = n) (hP : ∀ p ∈ ps, prmBy p) (hN : n ≤ 16000000) (hs : nm.size ≤ 4000000) :
    Calls Tryz.prog 43 #[.slice A n c, .string nm] w fun e w' => e = .returned (.string (strOfNums (gotL ps (byteL nm)))) ∧ Below w.heap.size w w' := by
  have HA := Lib.hid hA; have HN := Lib.hid hn; have HP := Lib.hid hP
  clear hA hn hP
  have GE := Lib.hid (show gotL ps (byteL nm) = (getP ps (byteL nm)).getD [] from rfl)
  go_enter Tryz.func43, Tryz.ntmps43
  go_wp2_with fail
  refine (get_any A n c ps nm _ HA.out HN.out HP.out hN hs).mono ?_
  rintro e w1 ⟨rfl, hb1⟩
  have B1 := Lib.hid hb1; clear hb1
  cases hg : getP ps (byteL nm) with
  | none =>
    have E := Lib.hid (show gotL ps (byteL nm) = [] by rw [GE.out, hg]; rfl)
    clear hg
    rw [show getV none = .tuple #[.string ⟨#[]⟩, .bool false] from rfl]
    go_wp2_with fail
    go_ret
    exact ⟨by rw [E.out]; rfl, B1.out⟩
  | some v =>
    have E := Lib.hid (show gotL ps (byteL nm) = v by rw [GE.out, hg]; rfl)
    clear hg
    rw [show getV (some v) = .tuple #[.string (strOfNums v), .bool true] from rfl]
    go_wp2_with fail
    go_ret
    exact ⟨by rw [E.out]; rfl, B1.out⟩
def hasL (ps : List Prm) (ns : List (List Int)) : Bool := ns.all fun n => (getP ps n).isSome
set_option maxRecDepth 100000 in
theorem has_any (A A2 : Option Addr) (n c n2 c2 : Nat) (ps : List Prm) (zs : List ByteArray) (w : World) (hA : Rds w w.heap.size A (prms ps)) (hn : ps.length = n) (hP : ∀ p ∈ ps, prmBy p) (hN : n ≤ 16000000)
    (hA2 : Rds w w.heap.size A2 (zs.map Value.string)) (hn2 : zs.length = n2) (hz : ∀ z ∈ zs, z.size ≤ 4000000) (hN2 : n2 ≤ 16000000) :
    Calls Tryz.prog 42 #[.slice A n c, .slice A2 n2 c2] w fun e w' => e = .returned (.bool (hasL ps (zs.map byteL))) ∧ Below w.heap.size w w' := by
  have HA := Lib.hid hA; have HN := Lib.hid hn; have HP := Lib.hid hP; have HA2 := Lib.hid hA2; have HN2 := Lib.hid hn2; have HZ := Lib.hid hz
  clear hA hn hP hA2 hn2 hz
  go_enter Tryz.func42, Tryz.ntmps42
  go_wp2_with fail
  go_loopw [5] (fun v wr => ∃ k : Nat, k ≤ n2 ∧ v = .int .i64 k ∧ Hid (Below w.heap.size w wr ∧ hasL ps (zs.map byteL) = hasL ps ((zs.map byteL).drop k))) (fun v _ => n2 - (intOf v).toNat)
  case atStart => exact ⟨0, Nat.zero_le _, rfl, Lib.hid ⟨Below.refl _ _, rfl⟩⟩
  case round =>
    obtain ⟨k, hk, rfl, H⟩ := hrel
    by_cases hlt : k < n2
    · obtain ⟨z, hz⟩ : ∃ z, zs[k]? = some z := ⟨_, List.getElem?_eq_getElem (by rw [HN2.out]; exact hlt)⟩
      have hzs := HZ.out z (List.mem_of_getElem? hz)
      have DT := Lib.hid (show (zs.map byteL).drop k = byteL z :: (zs.map byteL).drop (k + 1) by
        obtain ⟨hl, rfl⟩ := List.getElem?_eq_some_iff.1 hz
        rw [List.drop_eq_getElem_cons (by simpa using hl), List.getElem_map])
      obtain ⟨ab, ao, rfl, hab, hac⟩ := HA2.out (by rw [List.length_map, HN2.out]; omega)
      have c1 : wr.cell? ⟨ab, ao + k, none⟩ = some (.string z) := (H.out.1.cell (p := ⟨ab, ao + k, none⟩) hab).trans (hac k _ (by rw [List.getElem?_map, hz]; rfl))
      have hd : decide (k < n2) = true := by simp [hlt]
      clear hac hab hz
      go_wp2_with fail
      clear c1
      refine (get_any A n c ps z _ ((HA.out.below H.out.1).up H.out.1.size) HN.out HP.out hN hzs).mono ?_
      rintro e w1 ⟨rfl, hb1⟩
      have B1 := Lib.hid (bthen H.out.1 hb1); clear hb1
      cases hg : getP ps (byteL z) with
      | none =>
        have E := Lib.hid (show hasL ps (zs.map byteL) = false by rw [H.out.2, DT.out]; unfold hasL; rw [List.all_cons, hg]; rfl)
        clear hg
        rw [show getV none = .tuple #[.string ⟨#[]⟩, .bool false] from rfl]
        go_wp2_with fail
        go_ret
        exact ⟨by rw [E.out]; rfl, B1.out⟩
      | some v =>
        have E := Lib.hid (show hasL ps (zs.map byteL) = hasL ps ((zs.map byteL).drop (k + 1)) by rw [H.out.2, DT.out]; unfold hasL; rw [List.all_cons, hg]; rfl)
        clear hg
        rw [show getV (some v) = .tuple #[.string (strOfNums v), .bool true] from rfl]
        go_wp2_with fail
        go_roundw
        case rel => exact ⟨k + 1, by omega, by go_num, Lib.hid ⟨B1.out, E.out⟩⟩
        case measure => simp [intOf]; omega
    · obtain rfl : k = n2 := by omega
      have E := Lib.hid (show hasL ps (zs.map byteL) = true by rw [H.out.2, List.drop_of_length_le (by rw [List.length_map, HN2.out]; exact Nat.le_refl _)]; rfl)
      go_wp2_with fail
      go_ret
      exact ⟨by rw [E.out]; rfl, H.out.1⟩
def amongL (zs : List ByteArray) (x : ByteArray) : Bool := (zs.map byteL).contains (byteL x)
end Go.Proofs.YtfhbpgickkibmaaGreatDoor
