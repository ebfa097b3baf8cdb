/- Contracts: the reference 07's quality, count, digits. Contract: the reference 07's ParseCredentials. -/
import Derived.Test.YtfhbpgickkibmaaGreatDoorDj
import Derived.Test.YtfhbpgickkibmaaGreatDoorPj
import Derived.Test.YtfhbpgickkibmaaGreatDoorDf
namespace Go.Proofs.YtfhbpgickkibmaaGreatDoor
open Go.RowKit

theorem refquality_any (b : Bool) (w : World) : Calls Tryz.prog 52 #[.bool b] w fun e w' => e = .returned (.string (strOfNums (QUAL b))) ∧ w = w' := by
  go_enter Tryz.func52, Tryz.ntmps52
  cases b
  · go_wp2
    go_ret
    exact ⟨rfl, rfl⟩
  · go_wp2
    go_ret
    exact ⟨rfl, rfl⟩
theorem dig_sub (m : Nat) (h : m < 16) : ((⟨#[48, 49, 50, 51, 52, 53, 54, 55, 56, 57, 97, 98, 99, 100, 101, 102]⟩ : ByteArray).extract m (m + 1)) = strOfNums [hexC m] := by
  have h2 : ∀ k : Fin 16, ((⟨#[48, 49, 50, 51, 52, 53, 54, 55, 56, 57, 97, 98, 99, 100, 101, 102]⟩ : ByteArray).extract k.val (k.val + 1)) = strOfNums [hexC k.val] := by decide +kernel
  exact h2 ⟨m, h⟩
theorem digB_len (k : Int) : ∀ n, (digB k n).length = n
  | 0 => rfl
  | n + 1 => by unfold digB; rw [List.length_cons, digB_len k n]
set_option maxRecDepth 100000 in
theorem digits_any (k : Int) (w : World) (h0 : 0 ≤ k) (h1 : k ≤ 4294967295) : Calls Tryz.prog 53 #[.int .i64 k] w fun e w' => e = .returned (.string (strOfNums (hex8 k))) ∧ w = w' := by
  have H8 := Lib.hid (digB_8 k)
  go_enter Tryz.func53, Tryz.ntmps53
  go_wp2_with fail
  go_loop [3, 4, 5] (fun v3 v4 v5 => ∃ (i : Nat) (x : Nat) (t : ByteArray), i ≤ 8 ∧ v3 = .int .u32 (x : Int) ∧ v4 = .string t ∧ v5 = .int .i64 i ∧ x ≤ 4294967295 ∧ t.size ≤ 8 ∧ Hid ((x : Int) = k / 16 ^ i ∧ t = strOfNums (digB k i) ∧ t.size = i)) (fun _ _ v => 8 - (intOf v).toNat)
  case atStart => exact ⟨0, k.toNat, ⟨#[]⟩, Nat.zero_le _, by rw [Int.toNat_of_nonneg h0], rfl, rfl, by omega, Nat.zero_le _, Lib.hid ⟨by rw [Int.toNat_of_nonneg h0]; simp, rfl, rfl⟩⟩
  case round =>
    obtain ⟨i, x, t, hi, rfl, rfl, rfl, hx, ht, H⟩ := hrel
    by_cases hlt : i < 8
    · have hd : decide (i < 8) = true := by simp [hlt]
      have hd1 : decide ((i : Int) < 8) = true := by simp; omega
      obtain ⟨m, hm⟩ : ∃ m, x % 16 = m := ⟨_, rfl⟩
      obtain ⟨q, hq⟩ : ∃ q, x / 16 = q := ⟨_, rfl⟩
      have ml : m < 16 := by omega
      have DS := Lib.hid (dig_sub m ml)
      have mm : (x : Int) % 16 = (m : Int) := by omega
      have md : (x : Int) / 16 = (q : Int) := by omega
      have HM := Lib.hid hm
      have HQ := Lib.hid hq
      clear hm hq
      go_wp2_with fail
      have MK := Lib.hid (show k / 16 ^ i % 16 = (m : Int) by rw [← H.out.1]; exact mm)
      have QK := Lib.hid (show (q : Int) = k / 16 ^ (i + 1) by rw [← md, H.out.1, Int.pow_succ, Int.ediv_ediv, if_neg (fun h => absurd h.1 (Int.not_lt.2 (Int.le_of_lt (Int.pow_pos (by decide))))), Int.sub_zero])
      have TK := Lib.hid (show (⟨#[48, 49, 50, 51, 52, 53, 54, 55, 56, 57, 97, 98, 99, 100, 101, 102]⟩ : ByteArray).extract m (m + 1) ++ t = strOfNums (digB k (i + 1)) by
        rw [DS.out, H.out.2.1, str_app, digB, MK.out]; rfl)
      have SK := Lib.hid (show ((⟨#[48, 49, 50, 51, 52, 53, 54, 55, 56, 57, 97, 98, 99, 100, 101, 102]⟩ : ByteArray).extract m (m + 1) ++ t).size = i + 1 by
        rw [TK.out, num_size, digB_len])
      go_round
      case rel => exact ⟨i + 1, q, _, by omega, rfl, rfl, by go_num, by (have h5 := HQ.out; omega), by rw [SK.out]; omega, Lib.hid ⟨QK.out, TK.out, SK.out⟩⟩
      case measure => simp [intOf]; omega
    · obtain rfl : i = 8 := by omega
      have E := Lib.hid (show t = strOfNums (hex8 k) by rw [H.out.2.1, H8.out])
      go_wp2_with fail
      go_ret
      exact ⟨by rw [← E.out]; rfl, rfl⟩
end Go.Proofs.YtfhbpgickkibmaaGreatDoor
namespace Go.Proofs.YtfhbpgickkibmaaGreatDoor
open Go.RowKit

/-- What the walk keeps of memory: the result's block, the parameters. -/
structure QN (w : World) (T : TypeId) (Z : List Value) (A : Option Addr) (cs : List Value) (wr : World) : Prop where
  bw : Below w.heap.size w wr
  r : Row wr w.heap.size T Z
  p : Rds wr wr.heap.size A cs
theorem QN.below {w : World} {T : TypeId} {Z : List Value} {A : Option Addr} {cs : List Value} {wr w' : World} (h : QN w T Z A cs wr) (hb : Below wr.heap.size wr w') : QN w T Z A cs w' :=
  ⟨bthen h.bw hb, h.r.below hb, (h.p.below hb).up hb.size⟩
theorem rds_new' (w : World) (T : TypeId) (vs : List Value) : Rds (w.alloc (.cells vs.toArray T)) (w.alloc (.cells vs.toArray T)).heap.size (some ⟨w.heap.size, 0, none⟩) vs := fun _ =>
  ⟨w.heap.size, 0, rfl, (Row.new w T vs).lt, fun j u hu => by rw [Nat.zero_add, (Row.new w T vs).cell j]; exact hu⟩
end Go.Proofs.YtfhbpgickkibmaaGreatDoor
