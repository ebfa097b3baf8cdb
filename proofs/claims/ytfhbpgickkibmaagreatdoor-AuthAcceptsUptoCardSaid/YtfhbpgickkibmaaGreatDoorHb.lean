/- The contracts of hash's digit, Hex and Unhex. The contract of hash's Unhex. -/
import Derived.Test.YtfhbpgickkibmaaGreatDoorMc
namespace Go.Proofs.YtfhbpgickkibmaaGreatDoor
open Go.RowKit

def hexC (n : Int) : Int := if n < 10 then 48 + n else 87 + n
def hexP (b : Int) : List Int := [hexC (b / 16), hexC (b % 16)]
def hexL (bs : List Int) : List Int := bs.flatMap hexP
theorem hexL_len : ∀ bs : List Int, (hexL bs).length = 2 * bs.length
  | [] => rfl
  | b :: bs => by
    have h := hexL_len bs
    rw [show hexL (b :: bs) = hexP b ++ hexL bs from rfl, List.length_append, h, List.length_cons]
    simp [hexP]; omega
theorem hexC_by {n : Int} (h0 : 0 ≤ n) (h1 : n < 16) : 0 ≤ hexC n ∧ hexC n < 256 := by unfold hexC; split <;> omega
theorem hexL_by {bs : List Int} (h : By bs) : By (hexL bs) := fun x hx => by
  obtain ⟨b, hb, hx⟩ := List.mem_flatMap.1 hx
  have := h b hb
  simp [hexP] at hx
  rcases hx with rfl | rfl
  · exact hexC_by (by omega) (by omega)
  · exact hexC_by (by omega) (by omega)
theorem hexL_snoc (bs : List Int) (b : Int) : hexL (bs ++ [b]) = hexL bs ++ [hexC (b / 16), hexC (b % 16)] := by simp [hexL, hexP]
def digOk (c : Int) : Bool := decide (48 ≤ c ∧ c ≤ 57) || (decide (97 ≤ c ∧ c ≤ 102) || decide (65 ≤ c ∧ c ≤ 70))
def digV (c : Int) : Int := if 48 ≤ c ∧ c ≤ 57 then c - 48 else if 97 ≤ c ∧ c ≤ 102 then c - 87 else if 65 ≤ c ∧ c ≤ 70 then c - 55 else 0
theorem digV_range (c : Int) : 0 ≤ digV c ∧ digV c < 16 := by unfold digV; split; omega; split; omega; split <;> omega
theorem ret_dig {a b : Int} {x y : Bool} (h : a = b) (h2 : x = y) : Ending.returned (.tuple #[.int .u8 a, .bool x]) = .returned (.tuple #[.int .u8 b, .bool y]) := by rw [h, h2]
theorem digit_any (c : Int) (w : World) (h0 : 0 ≤ c) (h1 : c < 256) : Calls Tryz.prog 78 #[.int .u8 c] w fun e w' => e = .returned (.tuple #[.int .u8 (digV c), .bool (digOk c)]) ∧ w = w' := by
  have D := Lib.hid (show digV c = if 48 ≤ c ∧ c ≤ 57 then c - 48 else if 97 ≤ c ∧ c ≤ 102 then c - 87 else if 65 ≤ c ∧ c ≤ 70 then c - 55 else 0 from rfl)
  have K := Lib.hid (show digOk c = (decide (48 ≤ c ∧ c ≤ 57) || (decide (97 ≤ c ∧ c ≤ 102) || decide (65 ≤ c ∧ c ≤ 70))) from rfl)
  generalize digV c = d at *
  generalize digOk c = k at *
  rcases (show c < 48 ∨ (48 ≤ c ∧ c ≤ 57) ∨ (57 < c ∧ c < 65) ∨ (65 ≤ c ∧ c ≤ 70) ∨ (70 < c ∧ c < 97) ∨ (97 ≤ c ∧ c ≤ 102) ∨ 102 < c by omega) with h | h | h | h | h | h | h
  all_goals
    go_enter Tryz.func78, Tryz.ntmps78
    go_wp2
    go_ret2
    refine ⟨ret_dig ?_ ?_, rfl⟩
    · rw [D.out]
      first
        | rw [if_pos (by omega)]
        | (rw [if_neg (by omega), if_pos (by omega)]; omega)
        | (rw [if_neg (by omega), if_neg (by omega), if_pos (by omega)]; omega)
        | rw [if_neg (by omega), if_neg (by omega), if_neg (by omega)]
    · rw [K.out]; simp; omega

theorem dig_at (n : Int) (h0 : 0 ≤ n) (h1 : n < 16) (w : World) : (Instr.index 9 (.string ⟨#[48, 49, 50, 51, 52, 53, 54, 55, 56, 57, 97, 98, 99, 100, 101, 102]⟩) (.int .u8 n)).run Tryz.prog w = .ok (.int .u8 (hexC n)) w := by
  obtain ⟨k, rfl⟩ := Int.eq_ofNat_of_zero_le h0
  rcases k with _ | _ | _ | _ | _ | _ | _ | _ | _ | _ | _ | _ | _ | _ | _ | _ | k
  all_goals first | omega | kernel_rfl
/-- What Hex has done after k bytes. -/
structure HX (w : World) (bs : List Int) (m k : Nat) (wr : World) : Prop where
  r : Row wr w.heap.size 5 (U8 (hexL (bs.take k) ++ List.replicate (2 * (m - k)) 0))
  bw : Below w.heap.size w wr
def HXR (w : World) (bs : List Int) (m : Nat) (v v12 : Value) (wr : World) : Prop := ∃ k : Nat, k ≤ m ∧ v = .slice (some ⟨w.heap.size, 0, none⟩) (2 * k) (2 * m) ∧ v12 = .int .i64 k ∧ HX w bs m k wr
theorem i5 : ∃ i, Tryz.prog.info? 5 = some i ∧ i.size = 1 := by
  obtain ⟨i, h1, _, h2, _⟩ := i5all
  exact ⟨i, h1, h2⟩
theorem and15 (c : Int) (h0 : 0 ≤ c) (h1 : c < 256) : bits .and .u8 c 15 = c % 16 := by
  obtain ⟨k, rfl⟩ := Int.eq_ofNat_of_zero_le h0
  have h : ∀ k : Fin 256, bits .and .u8 (k.val : Int) 15 = (k.val : Int) % 16 := by decide +kernel
  exact h ⟨k, by omega⟩
theorem news_row {W : World} {b : Nat} {T : TypeId} {vs : List Value} (h : Row W b T vs) : ∀ j u, vs[j]? = some u → W.cell? ((⟨b, 0, none⟩ : Addr).add j) = some u := fun j u hu => by
  rw [Addr.add_mid, Nat.zero_add, h.cell j, hu]
theorem spare_row {W : World} {b n q : Nat} {T : TypeId} {vs : List Value} (h : Row W b T vs) (hl : n + q ≤ vs.length) : ∀ j, j < q → (W.cell? ⟨b, 0 + n * 1 + j, none⟩).isSome = true ∧ W.frozen? ⟨b, 0 + n * 1 + j, none⟩ = false := fun j hj => by
  rw [h.cell, List.getElem?_eq_getElem (by omega)]
  exact ⟨rfl, h.frozen _⟩
theorem two_one (a b : Int) : ∀ u ∈ [Value.int .u8 a, Value.int .u8 b], u.oneCell' = true := fun u hu => by
  simp at hu
  rcases hu with rfl | rfl <;> rfl
theorem HX.step {w W : World} {bs : List Int} {m k : Nat} {x : Int} (hk : k < m) (hl : bs.length = m) (e : bs.take (k + 1) = bs.take k ++ [x]) (r : Row W w.heap.size 5 (U8 (hexL (bs.take k) ++ List.replicate (2 * (m - k)) 0))) (bw : Below w.heap.size w W) :
    HX w bs m (k + 1) (W.setCells w.heap.size (2 * k) [.int .u8 (hexC (x / 16)), .int .u8 (hexC (x % 16))]) := by
  refine ⟨?_, below_setCells (Nat.le_refl _) _ _ _ bw⟩
  rw [e, hexL_snoc]
  have e2 : List.replicate (2 * (m - k)) (0 : Int) = [0, 0] ++ List.replicate (2 * (m - (k + 1))) 0 := by
    rw [show 2 * (m - k) = 2 * (m - (k + 1)) + 1 + 1 by omega, List.replicate_succ, List.replicate_succ]; rfl
  have hl2 : (U8 (hexL (bs.take k))).length = 2 * k := by simp [U8, hexL_len]; omega
  rw [← hl2]
  have h1 : Row W w.heap.size 5 (U8 (hexL (bs.take k)) ++ [Value.int .u8 0, .int .u8 0] ++ U8 (List.replicate (2 * (m - (k + 1))) 0)) := by
    rw [e2] at r
    simpa [U8] using r
  have h2 := Row.setCells [Value.int .u8 (hexC (x / 16)), .int .u8 (hexC (x % 16))] _ _ _ W h1 rfl
  simpa [U8] using h2
theorem HX.len {w wr : World} {bs : List Int} {m k : Nat} (_H : HX w bs m k wr) (hk : k < m) (hl : bs.length = m) : 2 * k + 2 ≤ (U8 (hexL (bs.take k) ++ List.replicate (2 * (m - k)) 0)).length := by
  simp [U8, hexL_len]; omega
set_option maxRecDepth 100000 in
theorem hex_any (A : Option Addr) (m c : Nat) (bs : List Int) (w : World) (hb : By bs) (hA : Bs w w.heap.size A bs) (hm : bs.length = m) (hc : m ≤ c) (hM : m ≤ 8192) :
    Calls Tryz.prog 70 #[.slice A m c] w fun e w' => e = .returned (.string (strOfNums (hexL bs))) ∧ Below w.heap.size w w' := by
  have HB := Lib.hid hb; have HA := Lib.hid hA; have HM := Lib.hid hm
  clear hb hA hm
  obtain ⟨i, hi, hi1⟩ := i5
  have HI := Lib.hid hi; have HI1 := Lib.hid hi1
  clear hi hi1
  go_enter Tryz.func70, Tryz.ntmps70
  go_wp2_with (with_reducible refine wpList_value rfl _ _ (exec_make (l := 0) (c := 2 * m) rfl ?h1 ?h2 (Nat.zero_le _) (by omega)) ?_)
  case h1 => rfl
  case h2 => exact congrArg (Value.int .i64) (by push_cast; rfl)
  go_loopw [3, 12] (fun v v12 wr => HXR w bs m v v12 wr) (fun _ v _ => m - (intOf v).toNat)
  case atStart =>
    refine ⟨0, Nat.zero_le _, rfl, rfl, Row.new w 5 _, (Below.refl _ _).alloc (Nat.le_refl _) _⟩
  case round =>
    obtain ⟨k, hk, rfl, rfl, H⟩ := hrel
    have HH := Lib.hid H
    by_cases hlt : k < m
    · obtain ⟨ad, rfl, hab, hac⟩ := HA.out (by rw [HM.out]; omega)
      have hx1 : bs[k]? = some (bs.getD k 0) := getD_some (by rw [HM.out]; exact hlt)
      have hx2 := HB.out _ (List.mem_of_getElem? hx1)
      have hcell : wr.cell? (ad.add k) = some (.int .u8 (bs.getD k 0)) := (H.bw.cell (by rw [add_block]; exact hab)).trans (hac k _ hx1)
      have SN := Lib.hid (take_snocI bs (k := k) (by rw [HM.out]; exact hlt))
      clear hac hx1 hab H
      generalize bs.getD k 0 = x at *
      have x0 := hx2.1
      have x1 := hx2.2
      clear hx2
      have e15 := and15 x x0 x1
      have d1 := fun w => dig_at (x / 16) (by omega) (by omega) w
      have d2 := fun w => dig_at (x % 16) (by omega) (by omega) w
      have hd : decide (k < m) = true := by simp; omega
      go_wp2_with fail
      have NW := Lib.hid (fun (W : World) (h : Row W wr.heap.size 5 [.int .u8 (hexC (x / 16)), .int .u8 (hexC (x % 16))]) => news_row h)
      have SP := Lib.hid (fun (W : World) (h : Row W w.heap.size 5 (U8 (hexL (bs.take k) ++ List.replicate (2 * (m - k)) 0))) => spare_row (n := 2 * k) (q := 2) h (HH.out.len hlt HM.out))
      go_region_law (refine step_append_room rfl (.tmp 16) (.tmp 23) 31 rfl 5 i 1 Tryz.underlying31 HI.out HI1.out w.heap.size 0 (2 * k) (2 * m) rfl ⟨wr.heap.size, 0, none⟩ 2 2 [.int .u8 (hexC (x / 16)), .int .u8 (hexC (x % 16))] rfl rfl (NW.out _ (Row.new wr 5 _)) (two_one _ _) (by omega) (SP.out _ (HH.out.r.alloc _)) ?_)
      all_goals
        go_wp2_with fail
        go_roundw
        case rel => exact ⟨k + 1, by omega, rfl, by go_num, HX.step hlt HM.out SN.out (HH.out.r.alloc _).drew ((HH.out.bw.alloc HH.out.bw.size _).drew)⟩
        case measure => simp [intOf]; omega
    · obtain rfl : k = m := by omega
      have R := H.r
      rw [Nat.sub_self, Nat.mul_zero, List.replicate_zero, List.append_nil, List.take_of_length_le (by rw [HM.out]; omega)] at R
      have CV := run_convert_bytes_arg (P := Tryz.prog) wr 31 5 Tryz.underlying31 Tryz.underlying5 w.heap.size 0 (2 * k) (2 * k) (hexL bs) (by rw [hexL_len, HM.out]) (fun i hi => by
        rw [Nat.zero_add, R.cell i]
        exact U8_get (getD_some (by rw [hexL_len, HM.out]; exact hi))) 9 Tryz.underlying9
      clear R H
      go_wp2_with fail
      go_ret
      exact ⟨rfl, HH.out.bw⟩
end Go.Proofs.YtfhbpgickkibmaaGreatDoor
namespace Go.Proofs.YtfhbpgickkibmaaGreatDoor
open Go.RowKit

def goodU (xs : List Int) : Bool := decide (xs.length % 2 = 0) && xs.all digOk
def unB (xs : List Int) (k : Nat) : Int := digV (xs.getD (2 * k) 0) * 16 + digV (xs.getD (2 * k + 1) 0)
def unL (xs : List Int) (n : Nat) : List Int := (List.range n).map (unB xs)
theorem unL_len (xs : List Int) (n : Nat) : (unL xs n).length = n := by simp [unL]
theorem unL_succ (xs : List Int) (n : Nat) : unL xs (n + 1) = unL xs n ++ [unB xs n] := by simp [unL, List.range_succ]
theorem unL_by (xs : List Int) (n : Nat) : By (unL xs n) := fun x hx => by
  obtain ⟨k, _, rfl⟩ := List.mem_map.1 hx
  have h1 := digV_range (xs.getD (2 * k) 0)
  have h2 := digV_range (xs.getD (2 * k + 1) 0)
  unfold unB; omega
theorem or16 (a b : Int) (h0 : 0 ≤ a) (h1 : a < 16) (h2 : 0 ≤ b) (h3 : b < 16) : bits .or .u8 (a * 16) b = a * 16 + b := by
  obtain ⟨k, rfl⟩ := Int.eq_ofNat_of_zero_le h0
  obtain ⟨l, rfl⟩ := Int.eq_ofNat_of_zero_le h2
  have h : ∀ (k l : Fin 16), bits .or .u8 ((k.val : Int) * 16) (l.val : Int) = (k.val : Int) * 16 + l.val := by decide +kernel
  exact h ⟨k, by omega⟩ ⟨l, by omega⟩
theorem digit_is (c : Int) (b : Bool) (w : World) (h0 : 0 ≤ c) (h1 : c < 256) (h : digOk c = b) : Calls Tryz.prog 78 #[.int .u8 c] w fun e w' => e = .returned (.tuple #[.int .u8 (digV c), .bool b]) ∧ w = w' := by
  subst h; exact digit_any c w h0 h1
/-- What Unhex leaves. -/
def UnR (w : World) (xs : List Int) (e : Ending) (w' : World) : Prop := Below w.heap.size w w' ∧
  if goodU xs = true then e = .returned (.tuple #[.slice (some ⟨w.heap.size, 0, none⟩) (xs.length / 2) (xs.length / 2), .int .u8 0]) ∧ Row w' w.heap.size 5 (U8 (unL xs (xs.length / 2)))
  else e = .returned (.tuple #[.slice none 0 0, .int .u8 5])
theorem UnR.bad {w w' : World} {xs : List Int} {e : Ending} (h : goodU xs = false) (hb : Below w.heap.size w w') (he : e = .returned (.tuple #[.slice none 0 0, .int .u8 5])) : UnR w xs e w' := ⟨hb, by rw [h]; exact he⟩
theorem bad_of {xs : List Int} {j : Nat} (hj : j < xs.length) (h : digOk (xs.getD j 0) = false) : goodU xs = false := by
  have h1 : xs[j]? = some (xs.getD j 0) := getD_some hj
  have h2 := List.mem_of_getElem? h1
  cases hg : goodU xs with
  | false => rfl
  | true =>
    unfold goodU at hg
    rw [Bool.and_eq_true, List.all_eq_true] at hg
    rw [hg.2 _ h2] at h
    cases h
structure UX (w : World) (xs : List Int) (m k : Nat) (wr : World) : Prop where
  r : Row wr w.heap.size 5 (U8 (unL xs k ++ List.replicate (m - k) 0))
  bw : Below w.heap.size w wr
  ok : ∀ j, j < 2 * k → digOk (xs.getD j 0) = true
def UXR (w : World) (xs : List Int) (m : Nat) (v4 v5 : Value) (wr : World) : Prop := ∃ k : Nat, k ≤ m ∧ v4 = .slice (some ⟨w.heap.size, 0, none⟩) k m ∧ v5 = .int .i64 (2 * (k : Int)) ∧ UX w xs m k wr
theorem UX.step {w wr W : World} {xs : List Int} {m k : Nat} {x : Int} (H : UX w xs m k wr) (hk : k < m) (hx : x = unB xs k) (h1 : digOk (xs.getD (2 * k) 0) = true) (h2 : digOk (xs.getD (2 * k + 1) 0) = true)
    (r : Row W w.heap.size 5 (U8 (unL xs k ++ List.replicate (m - k) 0))) (bw : Below w.heap.size w W) : UX w xs m (k + 1) (W.setCells w.heap.size k [.int .u8 x]) := by
  subst hx
  refine ⟨?_, below_setCells (Nat.le_refl _) _ _ _ bw, fun j hj => ?_⟩
  · rw [unL_succ]
    have e2 : List.replicate (m - k) (0 : Int) = [0] ++ List.replicate (m - (k + 1)) 0 := by
      rw [show m - k = (m - (k + 1)) + 1 by omega, List.replicate_succ]; rfl
    have h1 : Row W w.heap.size 5 (U8 (unL xs k) ++ [Value.int .u8 0] ++ U8 (List.replicate (m - (k + 1)) 0)) := by
      rw [e2] at r
      simpa [U8] using r
    have h2 := Row.setCells [Value.int .u8 (unB xs k)] _ _ _ W h1 rfl
    rw [show (U8 (unL xs k)).length = k by simp [U8, unL_len]] at h2
    simpa [U8] using h2
  · rcases (show j < 2 * k ∨ j = 2 * k ∨ j = 2 * k + 1 by omega) with h | rfl | rfl
    · exact H.ok j h
    · exact h1
    · exact h2
theorem UX.len {w wr : World} {xs : List Int} {m k : Nat} (_H : UX w xs m k wr) (hk : k < m) : k + 1 ≤ (U8 (unL xs k ++ List.replicate (m - k) 0)).length := by
  simp [U8, unL_len]; omega
theorem UX.all {w wr : World} {xs : List Int} {m : Nat} (H : UX w xs m m wr) (hm : xs.length = 2 * m) : goodU xs = true := by
  unfold goodU
  rw [Bool.and_eq_true, List.all_eq_true]
  refine ⟨by simp; omega, fun x hx => ?_⟩
  obtain ⟨j, hj, rfl⟩ := List.getElem_of_mem hx
  have := H.ok j (by omega)
  rwa [List.getD_eq_getElem?_getD, List.getElem?_eq_getElem hj] at this
theorem exec_append {ρ : Operand → Value} {op : Oper} {x y : Operand} {b n cap B q : Nat} {news : List Value} {w : World} {vs : List Value} {i : TypeInfo} (ho : op.op = .call { callee := .builtin .append, args := #[x, y], argTypes := #[31, 31] })
    (hx : ρ x = .slice (some ⟨b, 0, none⟩) n cap) (hy : ρ y = .slice (some ⟨B, 0, none⟩) q q) (hi : Tryz.prog.info? 5 = some i) (hi1 : i.size = 1)
    (hB : Row w B 5 news) (hb : Row w b 5 vs) (hq : news.length = q) (hl : n + q ≤ vs.length) (hcap : n + q ≤ cap) (h1 : ∀ u ∈ news, u.oneCell' = true) :
    (execOp ρ op).run Tryz.prog w = .ok (.value (.slice (some ⟨b, 0, none⟩) (n + q) cap)) (w.setCells b n news) := by
  subst hq
  have h := run_append_room_cells (P := Tryz.prog) w 31 op.type 5 i Tryz.underlying31 hi b 0 n cap ⟨B, 0, none⟩ news.length news.length news (by rw [hi1, Nat.mul_one]) (news_row hB) h1 hcap
    (fun j hj => by have := (spare_row (n := n) (q := news.length) hb hl j hj).1; rwa [hi1]) (fun j hj => by have := (spare_row (n := n) (q := news.length) hb hl j hj).2; rwa [hi1])
  rw [hi1, Nat.mul_one, Nat.zero_add] at h
  unfold execOp
  simp only [ho, resolve, invoke, builtin, Sem.run_bind, Sem.run_pure, Result.andThen_ok, List.map_toArray, List.map_cons, List.map_nil, hx, hy, h]
set_option maxRecDepth 100000 in
theorem unhex_any (s : ByteArray) (w : World) (hM : s.size ≤ 4000000) : Calls Tryz.prog 40 #[.string s] w (UnR w (byteL s)) := by
  have HL := Lib.hid (byteL_len s)
  have HB := Lib.hid (byteL_by s)
  obtain ⟨i, hi, hi1⟩ := i5
  have HI := Lib.hid hi; have HI1 := Lib.hid hi1
  clear hi hi1
  by_cases hodd : s.size % 2 = 0
  · obtain ⟨m, hm⟩ : ∃ m, s.size = 2 * m := ⟨s.size / 2, by omega⟩
    have HS := Lib.hid hm
    have m1 : s.size / 2 = m := by omega
    have t0 : ((s.size : Nat) : Int) % 2 = 0 := by omega
    have t1 : ((s.size : Nat) : Int) / 2 = (m : Int) := by omega
    clear hodd
    go_enter Tryz.func40, Tryz.ntmps40
    go_wp2_with (with_reducible refine wpList_value rfl _ _ (exec_make (l := 0) (c := m) rfl ?h1 ?h2 (Nat.zero_le _) (by omega)) ?_)
    case h1 => rfl
    case h2 => first | rfl | (rw [← t1])
    clear t0 t1
    go_loopw [4, 5] (fun v4 v5 wr => UXR w (byteL s) m v4 v5 wr) (fun _ v _ => 2 * m - (intOf v).toNat)
    case atStart => exact ⟨0, Nat.zero_le _, rfl, rfl, Row.new w 5 _, (Below.refl _ _).alloc (Nat.le_refl _) _, fun j hj => absurd hj (by omega)⟩
    case round =>
      obtain ⟨k, hk, rfl, rfl, H⟩ := hrel
      have HH := Lib.hid H
      clear H
      by_cases hlt : k < m
      · have hd : decide (2 * (k : Int) < (s.size : Int)) = true := by simp; omega
        have d1 := fun w => idx_str s (i := 2 * k) (by omega) (z := 2 * (k : Int)) (by omega) w
        have d2 := fun w => idx_str s (i := 2 * k + 1) (by omega) (z := 2 * (k : Int) + 1) (by omega) w
        have r1 := HB.out _ (List.mem_of_getElem? (getD_some (l := byteL s) (i := 2 * k) (by rw [HL.out]; omega)))
        have r2 := HB.out _ (List.mem_of_getElem? (getD_some (l := byteL s) (i := 2 * k + 1) (by rw [HL.out]; omega)))
        have UB := Lib.hid (show unB (byteL s) k = digV ((byteL s).getD (2 * k) 0) * 16 + digV ((byteL s).getD (2 * k + 1) 0) from rfl)
        cases q1 : digOk ((byteL s).getD (2 * k) 0)
        · have BAD := Lib.hid (bad_of (by rw [HL.out]; omega) q1)
          generalize (byteL s).getD (2 * k) 0 = x at *
          generalize (byteL s).getD (2 * k + 1) 0 = y at *
          have Q1 := Lib.hid q1
          clear q1
          cases q2 : digOk y
          all_goals
            have Q2 := Lib.hid q2
            clear q2
            go_wp2_with fail
            refine (digit_is x _ _ r1.1 r1.2 Q1.out).mono ?_
            rintro e w' ⟨rfl, rfl⟩
            go_wp2_with fail
            refine (digit_is y _ _ r2.1 r2.2 Q2.out).mono ?_
            rintro e w' ⟨rfl, rfl⟩
            go_wp2_with fail
            go_ret2
            exact UnR.bad BAD.out HH.out.bw rfl
        · cases q2 : digOk ((byteL s).getD (2 * k + 1) 0)
          · have BAD := Lib.hid (bad_of (by rw [HL.out]; omega) q2)
            generalize (byteL s).getD (2 * k) 0 = x at *
            generalize (byteL s).getD (2 * k + 1) 0 = y at *
            have Q1 := Lib.hid q1; have Q2 := Lib.hid q2
            clear q1 q2
            go_wp2_with fail
            refine (digit_is x _ _ r1.1 r1.2 Q1.out).mono ?_
            rintro e w' ⟨rfl, rfl⟩
            go_wp2_with fail
            refine (digit_is y _ _ r2.1 r2.2 Q2.out).mono ?_
            rintro e w' ⟨rfl, rfl⟩
            go_wp2_with fail
            go_ret2
            exact UnR.bad BAD.out HH.out.bw rfl
          · have OK1 := Lib.hid q1; have OK2 := Lib.hid q2
            generalize hx : (byteL s).getD (2 * k) 0 = x at d1 r1 UB q1
            generalize hy : (byteL s).getD (2 * k + 1) 0 = y at d2 r2 UB q2
            have Q1 := Lib.hid q1; have Q2 := Lib.hid q2
            clear q1 q2 hx hy
            have z1 := digV_range x
            have z2 := digV_range y
            have z3 := z1.1
            have z4 := z1.2
            have z5 := z2.1
            have z6 := z2.2
            clear z1 z2
            go_wp2_with fail
            refine (digit_is x _ _ r1.1 r1.2 Q1.out).mono ?_
            rintro e w' ⟨rfl, rfl⟩
            go_wp2_with fail
            refine (digit_is y _ _ r2.1 r2.2 Q2.out).mono ?_
            rintro e w' ⟨rfl, rfl⟩
            generalize digV x = p at *
            generalize digV y = q at *
            have e16 := or16 p q z3 z4 z5 z6
            go_wp2_with (with_reducible refine wpList_value rfl _ _ (exec_append (b := w.heap.size) (n := k) (cap := m) (B := wr.heap.size) (q := 1) (news := [.int .u8 (p * 16 + q)]) (vs := U8 (unL (byteL s) k ++ List.replicate (m - k) 0)) rfl rfl rfl HI.out HI1.out ?hnew (HH.out.r.alloc _) ?hlen (HH.out.len hlt) (Nat.succ_le_of_lt hlt) ?h1c) ?_)
            case hnew => exact Row.new wr 5 _
            case hlen => rfl
            case h1c => intro u hu; simp at hu; subst hu; rfl
            go_roundw
            case rel => exact ⟨k + 1, by omega, rfl, by go_num, HH.out.step hlt UB.out.symm OK1.out OK2.out (HH.out.r.alloc _) (HH.out.bw.alloc HH.out.bw.size _)⟩
            case measure => simp [intOf]; omega
      · obtain rfl : k = m := by omega
        have RES := Lib.hid (show UnR w (byteL s) (.returned (.tuple #[.slice (some ⟨w.heap.size, 0, none⟩) k k, .int .u8 0])) wr by
          have hl2 : (byteL s).length / 2 = k := by rw [HL.out]; exact m1
          have hr := HH.out.r
          rw [Nat.sub_self, List.replicate_zero, List.append_nil] at hr
          refine ⟨HH.out.bw, ?_⟩
          rw [HH.out.all (by rw [HL.out]; omega), if_pos rfl, hl2]
          exact ⟨rfl, hr⟩)
        go_wp2_with fail
        go_ret2
        exact RES.out
  · have BAD := Lib.hid (show goodU (byteL s) = false by
      unfold goodU
      rw [HL.out, decide_eq_false (by omega)]; rfl)
    have t0 : ¬ ((s.size : Nat) : Int) % 2 = 0 := by omega
    go_enter Tryz.func40, Tryz.ntmps40
    go_wp2_with fail
    go_ret2
    exact UnR.bad BAD.out (Below.refl _ _) rfl
end Go.Proofs.YtfhbpgickkibmaaGreatDoor
