/- The contract of the reference's Hex. -/
import Derived.Test.YtldonfgdomeacaaDoorMb
import Derived.Deep.QuietTactic
import Derived.BigQuiet
namespace Go.Proofs.YtldonfgdomeacaaDoor
open Go.RowKit

theorem sl_dig (n : Int) (h0 : 0 ≤ n) (h1 : n < 16) (w : World) : (Instr.slice 9 (.string ⟨#[48, 49, 50, 51, 52, 53, 54, 55, 56, 57, 97, 98, 99, 100, 101, 102]⟩) (some (.int .i64 n)) (some (.int .i64 (n + 1))) none).run Tryd.prog w = .ok (.string (strOfNums [hexC n])) w := by
  obtain ⟨k, rfl⟩ := Int.eq_ofNat_of_zero_le h0
  rcases k with _ | _ | _ | _ | _ | _ | _ | _ | _ | _ | _ | _ | _ | _ | _ | _ | k
  all_goals first | omega | kernel_rfl
theorem str_app (a b : List Int) : strOfNums a ++ strOfNums b = strOfNums (a ++ b) := by
  apply ByteArray.ext
  rw [ByteArray.data_append]
  simp [strOfNums]
theorem below_drewN (w : World) (q : Nat) : Below w.heap.size w (w.drewN q) := ⟨rfl, rfl, rfl, Nat.le_refl _, fun _ _ => rfl⟩
def RHR (w : World) (bs : List Int) (m : Nat) (v v4 : Value) (wr : World) : Prop := ∃ k : Nat, k ≤ m ∧ v = .string (strOfNums (hexL (bs.take k))) ∧ v4 = .int .i64 k ∧ ∃ q, w.drewN q = wr
set_option maxRecDepth 100000 in
theorem refhex_any (A : Option Addr) (m c : Nat) (bs : List Int) (w : World) (hb : By bs) (hA : Bs w w.heap.size A bs) (hm : bs.length = m) (hM : m ≤ 8192) :
    Calls Tryd.prog 18 #[.slice A m c] w fun e w' => e = .returned (.string (strOfNums (hexL bs))) ∧ Below w.heap.size w w' := by
  have HB := Lib.hid hb; have HA := Lib.hid hA; have HM := Lib.hid hm
  clear hb hA hm
  go_enter Tryd.func18, Tryd.ntmps18
  go_wp2_with fail
  go_loopw [3, 4] (fun v v4 wr => RHR w bs m v v4 wr) (fun _ v _ => m - (intOf v).toNat)
  case atStart => exact ⟨0, Nat.zero_le _, rfl, rfl, 0, rfl⟩
  case round =>
    obtain ⟨k, hk, rfl, rfl, q, rfl⟩ := hrel
    by_cases hlt : k < m
    · obtain ⟨ad, rfl, hab, hac⟩ := HA.out (by rw [HM.out]; omega)
      have hx1 : bs[k]? = some (bs.getD k 0) := getD_some (by rw [HM.out]; exact hlt)
      have hx2 := HB.out _ (List.mem_of_getElem? hx1)
      have hcell := hac k _ hx1
      have SN := Lib.hid (take_snocI bs (k := k) (by rw [HM.out]; exact hlt))
      have SZ := Lib.hid (show (strOfNums (hexL (bs.take k))).size = 2 * k by rw [strOfNums_size, hexL_len, List.length_take, HM.out]; omega)
      clear hac hx1 hab
      generalize bs.getD k 0 = x at *
      have x0 := hx2.1
      have x1 := hx2.2
      clear hx2
      have hd : decide ((k : Int) < (m : Int)) = true := by simp; omega
      have k0 : (0 : Int) ≤ (k : Int) := by omega
      have k1 : (k : Int) < (m : Int) := by omega
      generalize hS : strOfNums (hexL (bs.take k)) = S at *
      have SE := Lib.hid hS
      clear hS
      go_wp2_with fail
      go_quiet (fail)
      go_wp2_with fail
      have e1 := fun w => sl_dig (x / 16) (by omega) (by omega) w
      have e2 := fun w => sl_dig (x % 16) (by omega) (by omega) w
      have a1 := fun w => run_string_add_sum (P := Tryd.prog) w S (strOfNums [hexC (x / 16)]) (by rw [SZ.out, strOfNums_size]; simp; omega)
      have a2 := fun w => run_string_add_sum (P := Tryd.prog) w (S ++ strOfNums [hexC (x / 16)]) (strOfNums [hexC (x % 16)]) (by rw [ByteArray.size_append, SZ.out, strOfNums_size, strOfNums_size]; simp; omega)
      have v1 : IntKind.i64.wrap (x / 16 + 1) = x / 16 + 1 := IntWalk.i64_in _ (by omega)
      have v2 : IntKind.i64.wrap (x % 16 + 1) = x % 16 + 1 := IntWalk.i64_in _ (by omega)
      go_quiet (fail)
      go_wp2_with fail
      clear e1 e2 a1 a2 v1 v2
      go_roundw
      case rel =>
        refine ⟨k + 1, by omega, ?_, by go_num, _, rfl⟩
        rw [SN.out, hexL_snoc, ← SE.out, str_app, str_app]
        simp
      case measure => simp [intOf]; omega
    · obtain rfl : k = m := by omega
      have TE := Lib.hid (show bs.take k = bs from List.take_of_length_le (by rw [HM.out]; omega))
      rw [TE.out]
      go_wp2_with fail
      go_ret
      exact ⟨rfl, below_drewN _ _⟩
end Go.Proofs.YtldonfgdomeacaaDoor
