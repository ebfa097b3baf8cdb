/- The contracts of hash's digit, Hex and Unhex. -/
import Derived.Test.YtfhbpgickkibmaaGreatDoorMc
namespace Go.Proofs.YtfhbpgickkibmaaGreatDoor
open Go.RowKit

def hexC (n : Int) : Int := if n < 10 then 48 + n else 87 + n
def hexP (b : Int) : List Int := [hexC (b / 16), hexC (b % 16)]
def hexL (bs : List Int) : List Int := bs.flatMap hexP
theorem hexL_len : ∀ bs : List Int, (hexL bs).length = 2 * bs.length
  | [] => rfl
  | b :: bs => by
    have h := hexL_len bs
    rw [show hexL (b :: bs) = hexP b ++ hexL bs from rfl, List.length_append, h, List.length_cons]
    simp [hexP]; omega
theorem hexC_by {n : Int} (h0 : 0 ≤ n) (h1 : n < 16) : 0 ≤ hexC n ∧ hexC n < 256 := by unfold hexC; split <;> omega
theorem hexL_by {bs : List Int} (h : By bs) : By (hexL bs) := fun x hx => by
  obtain ⟨b, hb, hx⟩ := List.mem_flatMap.1 hx
  have := h b hb
  simp [hexP] at hx
  rcases hx with rfl | rfl
  · exact hexC_by (by omega) (by omega)
  · exact hexC_by (by omega) (by omega)
theorem hexL_snoc (bs : List Int) (b : Int) : hexL (bs ++ [b]) = hexL bs ++ [hexC (b / 16), hexC (b % 16)] := by simp [hexL, hexP]
def digOk (c : Int) : Bool := decide (48 ≤ c ∧ c ≤ 57) || (decide (97 ≤ c ∧ c ≤ 102) || decide (65 ≤ c ∧ c ≤ 70))
def digV (c : Int) : Int := if 48 ≤ c ∧ c ≤ 57 then c - 48 else if 97 ≤ c ∧ c ≤ 102 then c - 87 else if 65 ≤ c ∧ c ≤ 70 then c - 55 else 0
theorem digV_range (c : Int) : 0 ≤ digV c ∧ digV c < 16 := by unfold digV; split; omega; split; omega; split <;> omega
theorem ret_dig {a b : Int} {x y : Bool} (h : a = b) (h2 : x = y) : Ending.returned (.tuple #[.int .u8 a, .bool x]) = .returned (.tuple #[.int .u8 b, .bool y]) := by rw [h, h2]
theorem digit_any (c : Int) (w : World) (h0 : 0 ≤ c) (h1 : c < 256) : Calls Tryz.prog 78 #[.int .u8 c] w fun e w' => e = .returned (.tuple #[.int .u8 (digV c), .bool (digOk c)]) ∧ w = w' := by
  have D := Lib.hid (show digV c = if 48 ≤ c ∧ c ≤ 57 then c - 48 else if 97 ≤ c ∧ c ≤ 102 then c - 87 else if 65 ≤ c ∧ c ≤ 70 then c - 55 else 0 from rfl)
  have K := Lib.hid (show digOk c = (decide (48 ≤ c ∧ c ≤ 57) || (decide (97 ≤ c ∧ c ≤ 102) || decide (65 ≤ c ∧ c ≤ 70))) from rfl)
  generalize digV c = d at *
  generalize digOk c = k at *
  rcases (show c < 48 ∨ (48 ≤ c ∧ c ≤ 57) ∨ (57 < c ∧ c < 65) ∨ (65 ≤ c ∧ c ≤ 70) ∨ (70 < c ∧ c < 97) ∨ (97 ≤ c ∧ c ≤ 102) ∨ 102 < c by omega) with h | h | h | h | h | h | h
  all_goals
    go_enter Tryz.func78, Tryz.ntmps78
    go_wp2
    go_ret2
    refine ⟨ret_dig ?_ ?_, rfl⟩
    · rw [D.out]
      first
        | rw [if_pos (by omega)]
        | (rw [if_neg (by omega), if_pos (by omega)]; omega)
        | (rw [if_neg (by omega), if_neg (by omega), if_pos (by omega)]; omega)
        | rw [if_neg (by omega), if_neg (by omega), if_neg (by omega)]
    · rw [K.out]; simp; omega

theorem dig_at (n : Int) (h0 : 0 ≤ n) (h1 : n < 16) (w : World) : (Instr.index 9 (.string ⟨#[48, 49, 50, 51, 52, 53, 54, 55, 56, 57, 97, 98, 99, 100, 101, 102]⟩) (.int .u8 n)).run Tryz.prog w = .ok (.int .u8 (hexC n)) w := by
  obtain ⟨k, rfl⟩ := Int.eq_ofNat_of_zero_le h0
  rcases k with _ | _ | _ | _ | _ | _ | _ | _ | _ | _ | _ | _ | _ | _ | _ | _ | k
  all_goals first | omega | kernel_rfl
/-- What Hex has done after k bytes. -/
structure HX (w : World) (bs : List Int) (m k : Nat) (wr : World) : Prop where
  r : Row wr w.heap.size 5 (U8 (hexL (bs.take k) ++ List.replicate (2 * (m - k)) 0))
  bw : Below w.heap.size w wr
def HXR (w : World) (bs : List Int) (m : Nat) (v v12 : Value) (wr : World) : Prop := ∃ k : Nat, k ≤ m ∧ v = .slice (some ⟨w.heap.size, 0, none⟩) (2 * k) (2 * m) ∧ v12 = .int .i64 k ∧ HX w bs m k wr
theorem i5 : ∃ i, Tryz.prog.info? 5 = some i ∧ i.size = 1 := by
  obtain ⟨i, h1, _, h2, _⟩ := i5all
  exact ⟨i, h1, h2⟩
theorem and15 (c : Int) (h0 : 0 ≤ c) (h1 : c < 256) : bits .and .u8 c 15 = c % 16 := by
  obtain ⟨k, rfl⟩ := Int.eq_ofNat_of_zero_le h0
  have h : ∀ k : Fin 256, bits .and .u8 (k.val : Int) 15 = (k.val : Int) % 16 := by decide +kernel
  exact h ⟨k, by omega⟩
theorem news_row {W : World} {b : Nat} {T : TypeId} {vs : List Value} (h : Row W b T vs) : ∀ j u, vs[j]? = some u → W.cell? ((⟨b, 0, none⟩ : Addr).add j) = some u := fun j u hu => by
  rw [Addr.add_mid, Nat.zero_add, h.cell j, hu]
theorem spare_row {W : World} {b n q : Nat} {T : TypeId} {vs : List Value} (h : Row W b T vs) (hl : n + q ≤ vs.length) : ∀ j, j < q → (W.cell? ⟨b, 0 + n * 1 + j, none⟩).isSome = true ∧ W.frozen? ⟨b, 0 + n * 1 + j, none⟩ = false := fun j hj => by
  rw [h.cell, List.getElem?_eq_getElem (by omega)]
  exact ⟨rfl, h.frozen _⟩
theorem two_one (a b : Int) : ∀ u ∈ [Value.int .u8 a, Value.int .u8 b], u.oneCell' = true := fun u hu => by
  simp at hu
  rcases hu with rfl | rfl <;> rfl
theorem HX.step {w W : World} {bs : List Int} {m k : Nat} {x : Int} (hk : k < m) (hl : bs.length = m) (e : bs.take (k + 1) = bs.take k ++ [x]) (r : Row W w.heap.size 5 (U8 (hexL (bs.take k) ++ List.replicate (2 * (m - k)) 0))) (bw : Below w.heap.size w W) :
    HX w bs m (k + 1) (W.setCells w.heap.size (2 * k) [.int .u8 (hexC (x / 16)), .int .u8 (hexC (x % 16))]) := by
  refine ⟨?_, below_setCells (Nat.le_refl _) _ _ _ bw⟩
  rw [e, hexL_snoc]
  have e2 : List.replicate (2 * (m - k)) (0 : Int) = [0, 0] ++ List.replicate (2 * (m - (k + 1))) 0 := by
    rw [show 2 * (m - k) = 2 * (m - (k + 1)) + 1 + 1 by omega, List.replicate_succ, List.replicate_succ]; rfl
  have hl2 : (U8 (hexL (bs.take k))).length = 2 * k := by simp [U8, hexL_len]; omega
  rw [← hl2]
  have h1 : Row W w.heap.size 5 (U8 (hexL (bs.take k)) ++ [Value.int .u8 0, .int .u8 0] ++ U8 (List.replicate (2 * (m - (k + 1))) 0)) := by
    rw [e2] at r
    simpa [U8] using r
  have h2 := Row.setCells [Value.int .u8 (hexC (x / 16)), .int .u8 (hexC (x % 16))] _ _ _ W h1 rfl
  simpa [U8] using h2
theorem HX.len {w wr : World} {bs : List Int} {m k : Nat} (_H : HX w bs m k wr) (hk : k < m) (hl : bs.length = m) : 2 * k + 2 ≤ (U8 (hexL (bs.take k) ++ List.replicate (2 * (m - k)) 0)).length := by
  simp [U8, hexL_len]; omega
set_option maxRecDepth 100000 in
theorem hex_any (A : Option Addr) (m c : Nat) (bs : List Int) (w : World) (hb : By bs) (hA : Bs w w.heap.size A bs) (hm : bs.length = m) (hc : m ≤ c) (hM : m ≤ 8192) :
    Calls Tryz.prog 70 #[.slice A m c] w fun e w' => e = .returned (.string (strOfNums (hexL bs))) ∧ Below w.heap.size w w' := by
  have HB := Lib.hid hb; have HA := Lib.hid hA; have HM := Lib.hid hm
  clear hb hA hm
  obtain ⟨i, hi, hi1⟩ := i5
  have HI := Lib.hid hi; have HI1 := Lib.hid hi1
  clear hi hi1
  go_enter Tryz.func70, Tryz.ntmps70
  go_wp2_with (with_reducible refine wpList_value rfl _ _ (exec_make (l := 0) (c := 2 * m) rfl ?h1 ?h2 (Nat.zero_le _) (by omega)) ?_)
  case h1 => rfl
  case h2 => exact congrArg (Value.int .i64) (by push_cast; rfl)
  go_loopw [3, 12] (fun v v12 wr => HXR w bs m v v12 wr) (fun _ v _ => m - (intOf v).toNat)
  case atStart =>
    refine ⟨0, Nat.zero_le _, rfl, rfl, Row.new w 5 _, (Below.refl _ _).alloc (Nat.le_refl _) _⟩
  case round =>
    obtain ⟨k, hk, rfl, rfl, H⟩ := hrel
    have HH := Lib.hid H
    by_cases hlt : k < m
    · obtain ⟨ad, rfl, hab, hac⟩ := HA.out (by rw [HM.out]; omega)
      have hx1 : bs[k]? = some (bs.getD k 0) := getD_some (by rw [HM.out]; exact hlt)
      have hx2 := HB.out _ (List.mem_of_getElem? hx1)
      have hcell : wr.cell? (ad.add k) = some (.int .u8 (bs.getD k 0)) := (H.bw.cell (by rw [add_block]; exact hab)).trans (hac k _ hx1)
      have SN := Lib.hid (take_snocI bs (k := k) (by rw [HM.out]; exact hlt))
      clear hac hx1 hab H
      generalize bs.getD k 0 = x at *
      have x0 := hx2.1
      have x1 := hx2.2
      clear hx2
      have e15 := and15 x x0 x1
      have d1 := fun w => dig_at (x / 16) (by omega) (by omega) w
      have d2 := fun w => dig_at (x % 16) (by omega) (by omega) w
      have hd : decide (k < m) = true := by simp; omega
      go_wp2_with fail
      have NW := Lib.hid (fun (W : World) (h : Row W wr.heap.size 5 [.int .u8 (hexC (x / 16)), .int .u8 (hexC (x % 16))]) => news_row h)
      have SP := Lib.hid (fun (W : World) (h : Row W w.heap.size 5 (U8 (hexL (bs.take k) ++ List.replicate (2 * (m - k)) 0))) => spare_row (n := 2 * k) (q := 2) h (HH.out.len hlt HM.out))
      go_region_law (refine step_append_room rfl (.tmp 16) (.tmp 23) 31 rfl 5 i 1 Tryz.underlying31 HI.out HI1.out w.heap.size 0 (2 * k) (2 * m) rfl ⟨wr.heap.size, 0, none⟩ 2 2 [.int .u8 (hexC (x / 16)), .int .u8 (hexC (x % 16))] rfl rfl (NW.out _ (Row.new wr 5 _)) (two_one _ _) (by omega) (SP.out _ (HH.out.r.alloc _)) ?_)
      all_goals
        go_wp2_with fail
        go_roundw
        case rel => exact ⟨k + 1, by omega, rfl, by go_num, HX.step hlt HM.out SN.out (HH.out.r.alloc _).drew ((HH.out.bw.alloc HH.out.bw.size _).drew)⟩
        case measure => simp [intOf]; omega
    · obtain rfl : k = m := by omega
      have R := H.r
      rw [Nat.sub_self, Nat.mul_zero, List.replicate_zero, List.append_nil, List.take_of_length_le (by rw [HM.out]; omega)] at R
      have CV := run_convert_bytes_arg (P := Tryz.prog) wr 31 5 Tryz.underlying31 Tryz.underlying5 w.heap.size 0 (2 * k) (2 * k) (hexL bs) (by rw [hexL_len, HM.out]) (fun i hi => by
        rw [Nat.zero_add, R.cell i]
        exact U8_get (getD_some (by rw [hexL_len, HM.out]; exact hi))) 9 Tryz.underlying9
      clear R H
      go_wp2_with fail
      go_ret
      exact ⟨rfl, HH.out.bw⟩
end Go.Proofs.YtfhbpgickkibmaaGreatDoor
