/- Contracts: the reference 07's quality, count, digits. Contract: the reference 07's ParseCredentials. -/
import Derived.Test.YtfhbpgickkibmaaGreatDoorDj
import Derived.Test.YtfhbpgickkibmaaGreatDoorPj
import Derived.Test.YtfhbpgickkibmaaGreatDoorDf
namespace Go.Proofs.YtfhbpgickkibmaaGreatDoor
open Go.RowKit

theorem refquality_any (b : Bool) (w : World) : Calls Tryz.prog 52 #[.bool b] w fun e w' => e = .returned (.string (strOfNums (QUAL b))) ∧ w = w' := by
  go_enter Tryz.func52, Tryz.ntmps52
  cases b
  · go_wp2
    go_ret
    exact ⟨rfl, rfl⟩
  · go_wp2
    go_ret
    exact ⟨rfl, rfl⟩
theorem ret_int {a b : Int} (h : a = b) : Ending.returned (.int .i64 a) = .returned (.int .i64 b) := by rw [h]
set_option maxRecDepth 100000 in
theorem refcount_any (s : ByteArray) (w : World) (hs : s.size ≤ 4000000) : Calls Tryz.prog 45 #[.string s] w fun e w' => e = .returned (.int .i64 (countR (byteL s))) ∧ w = w' := by
  have HB := Lib.hid (byteL_by s)
  have HL := Lib.hid (byteL_len s)
  have CE := Lib.hid (show countR (byteL s) = if (byteL s).length = 8 ∧ (byteL s).all digOk = true then hexN (byteL s) else -1 from rfl)
  have IDX := Lib.hid (fun (j : Nat) (hj : j < s.size) (w : World) => idx_str s (i := j) hj (z := (j : Int)) rfl w)
  generalize countR (byteL s) = CR at *
  generalize byteL s = X at *
  go_enter Tryz.func45, Tryz.ntmps45
  go_wp2_with fail
  go_loop [3, 4] (fun v3 v4 => ∃ (i : Nat) (n : Int), i ≤ s.size ∧ i ≤ 8 ∧ v3 = .int .i64 n ∧ v4 = .int .i64 i ∧ 0 ≤ n ∧ n < 4294967296 ∧ Hid (n = hexN (X.take i) ∧ ∀ j, j < i → digOk (X.getD j 0) = true)) (fun _ v => s.size - (intOf v).toNat)
  case atStart => exact ⟨0, 0, Nat.zero_le _, Nat.zero_le _, rfl, rfl, Int.le_refl 0, by decide, Lib.hid ⟨rfl, fun j hj => absurd hj (by omega)⟩⟩
  case round =>
    obtain ⟨i, n, hi, hi8, rfl, rfl, hn0, hn1, H⟩ := hrel
    by_cases hlt : i < s.size
    · have hd : decide (i < s.size) = true := by simp [hlt]
      have d1 := IDX.out i hlt
      have hx := HB.out _ (getD_mem (l := X) (i := i) (by rw [HL.out]; exact hlt))
      have BAD := Lib.hid (fun (h : digOk (X.getD i 0) = false) => show CR = -1 by
        rw [CE.out, if_neg]
        rintro ⟨_, h2⟩
        rw [all_drop h (by rw [HL.out]; exact hlt)] at h2
        cases h2)
      have LONG := Lib.hid (fun (h : i = 8) => show CR = -1 by
        rw [CE.out, if_neg]
        rintro ⟨h2, _⟩
        rw [HL.out] at h2
        omega)
      have NX := Lib.hid (fun (h : digOk (X.getD i 0) = true) => show hexN (X.take (i + 1)) = 16 * n + digV (X.getD i 0) ∧ ∀ j, j < i + 1 → digOk (X.getD j 0) = true from ⟨by rw [take_snocI X (by rw [HL.out]; exact hlt), hexN_snoc, ← H.out.1], fun j hj => by
        rcases (show j < i ∨ j = i by omega) with h1 | rfl
        · exact H.out.2 j h1
        · exact h⟩)
      have NB := Lib.hid (fun (h8 : i < 8) => show hexN (X.take (i + 1)) < 4294967296 by
        have h5 := (hexN_take X (i + 1) (by rw [HL.out]; exact hlt)).2
        have h6 : (16 : Int) ^ (i + 1) ≤ 4294967296 := by
          rcases (show i = 0 ∨ i = 1 ∨ i = 2 ∨ i = 3 ∨ i = 4 ∨ i = 5 ∨ i = 6 ∨ i = 7 by omega) with rfl | rfl | rfl | rfl | rfl | rfl | rfl | rfl <;> decide
        omega)
      have DV := Lib.hid (show digV (X.getD i 0) = if 48 ≤ X.getD i 0 ∧ X.getD i 0 ≤ 57 then X.getD i 0 - 48 else if 97 ≤ X.getD i 0 ∧ X.getD i 0 ≤ 102 then X.getD i 0 - 87 else if 65 ≤ X.getD i 0 ∧ X.getD i 0 ≤ 70 then X.getD i 0 - 55 else 0 from rfl)
      have DO := Lib.hid (show digOk (X.getD i 0) = (decide (48 ≤ X.getD i 0 ∧ X.getD i 0 ≤ 57) || (decide (97 ≤ X.getD i 0 ∧ X.getD i 0 ≤ 102) || decide (65 ≤ X.getD i 0 ∧ X.getD i 0 ≤ 70))) from rfl)
      generalize digV (X.getD i 0) = dv at *
      generalize digOk (X.getD i 0) = dok at *
      generalize X.getD i 0 = c at *
      have c0 := hx.1
      have c1 := hx.2
      clear hx
      rcases (show c < 48 ∨ (57 < c ∧ c < 65) ∨ (70 < c ∧ c < 97) ∨ 102 < c ∨ (48 ≤ c ∧ c ≤ 57) ∨ (65 ≤ c ∧ c ≤ 70) ∨ (97 ≤ c ∧ c ≤ 102) by omega) with h | h | h | h | h | h | h
      iterate 4
        · have E := Lib.hid (BAD.out (by rw [DO.out]; simp; omega))
          go_wp2_with fail
          go_ret
          exact ⟨by rw [E.out]; rfl, rfl⟩
      all_goals
        have DT := Lib.hid (show dok = true by rw [DO.out]; simp; omega)
        rcases (show i = 8 ∨ i < 8 by omega) with h8 | h8
        · have E := Lib.hid (LONG.out h8)
          have g8 : decide ((8 : Int) ≤ (i : Int)) = true := by simp; omega
          have g9 : decide (8 ≤ i) = true := by simp; omega
          clear h8
          go_wp2_with fail
          go_ret
          exact ⟨by rw [E.out]; rfl, rfl⟩
        · have g8 : decide ((8 : Int) ≤ (i : Int)) = false := by simp; omega
          have g9 : decide (8 ≤ i) = false := by simp; omega
          have DD := Lib.hid (DV.out)
          have h1 := (NX.out DT.out).1
          have h2 := NB.out h8
          have N1 := Lib.hid h1
          have N2 := Lib.hid h2
          clear h1 h2
          go_wp2_with fail
          go_round
          case rel => exact ⟨i + 1, _, by omega, by omega, rfl, by go_num, by omega, by (have e1 := N1.out; have e2 := N2.out; have e3 := DD.out; first | (rw [if_pos (by omega)] at e3; omega) | (rw [if_neg (by omega), if_pos (by omega)] at e3; omega) | (rw [if_neg (by omega), if_neg (by omega), if_pos (by omega)] at e3; omega)), Lib.hid ⟨by (have e1 := N1.out; have e3 := DD.out; first | (rw [if_pos (by omega)] at e3; omega) | (rw [if_neg (by omega), if_pos (by omega)] at e3; omega) | (rw [if_neg (by omega), if_neg (by omega), if_pos (by omega)] at e3; omega)), (NX.out DT.out).2⟩⟩
          case measure => simp [intOf]; omega
    · obtain rfl : i = s.size := by omega
      have OKK := Lib.hid (show X.all digOk = true by
        rw [List.all_eq_true]
        intro x hx
        obtain ⟨j, hj, rfl⟩ := List.getElem_of_mem hx
        have h1 := H.out.2 j (by rw [HL.out] at hj; exact hj)
        rwa [List.getD_eq_getElem?_getD, List.getElem?_eq_getElem hj] at h1)
      have NN := Lib.hid (show n = hexN X by rw [H.out.1, List.take_of_length_le (by rw [HL.out]; exact Nat.le_refl _)])
      by_cases h8 : s.size = 8
      · have E := Lib.hid (show CR = n by rw [CE.out, if_pos ⟨by rw [HL.out]; exact h8, OKK.out⟩, NN.out])
        have g8 : ((s.size : Int) != 8) = false := by simp only [bne_eq_false_iff_eq]; omega
        clear h8
        go_wp2_with fail
        go_ret
        exact ⟨by rw [E.out]; rfl, rfl⟩
      · have E := Lib.hid (show CR = -1 by rw [CE.out, if_neg (fun h => h8 (by rw [← HL.out]; exact h.1))])
        have g8 : ((s.size : Int) != 8) = true := by simp only [bne_iff_ne]; omega
        clear h8
        go_wp2_with fail
        go_ret
        exact ⟨by rw [E.out]; rfl, rfl⟩
theorem dig_sub (m : Nat) (h : m < 16) : ((⟨#[48, 49, 50, 51, 52, 53, 54, 55, 56, 57, 97, 98, 99, 100, 101, 102]⟩ : ByteArray).extract m (m + 1)) = strOfNums [hexC m] := by
  have h2 : ∀ k : Fin 16, ((⟨#[48, 49, 50, 51, 52, 53, 54, 55, 56, 57, 97, 98, 99, 100, 101, 102]⟩ : ByteArray).extract k.val (k.val + 1)) = strOfNums [hexC k.val] := by decide +kernel
  exact h2 ⟨m, h⟩
theorem digB_len (k : Int) : ∀ n, (digB k n).length = n
  | 0 => rfl
  | n + 1 => by unfold digB; rw [List.length_cons, digB_len k n]
set_option maxRecDepth 100000 in
theorem digits_any (k : Int) (w : World) (h0 : 0 ≤ k) (h1 : k ≤ 4294967295) : Calls Tryz.prog 53 #[.int .i64 k] w fun e w' => e = .returned (.string (strOfNums (hex8 k))) ∧ w = w' := by
  have H8 := Lib.hid (digB_8 k)
  go_enter Tryz.func53, Tryz.ntmps53
  go_wp2_with fail
  go_loop [3, 4, 5] (fun v3 v4 v5 => ∃ (i : Nat) (x : Nat) (t : ByteArray), i ≤ 8 ∧ v3 = .int .u32 (x : Int) ∧ v4 = .string t ∧ v5 = .int .i64 i ∧ x ≤ 4294967295 ∧ t.size ≤ 8 ∧ Hid ((x : Int) = k / 16 ^ i ∧ t = strOfNums (digB k i) ∧ t.size = i)) (fun _ _ v => 8 - (intOf v).toNat)
  case atStart => exact ⟨0, k.toNat, ⟨#[]⟩, Nat.zero_le _, by rw [Int.toNat_of_nonneg h0], rfl, rfl, by omega, Nat.zero_le _, Lib.hid ⟨by rw [Int.toNat_of_nonneg h0]; simp, rfl, rfl⟩⟩
  case round =>
    obtain ⟨i, x, t, hi, rfl, rfl, rfl, hx, ht, H⟩ := hrel
    by_cases hlt : i < 8
    · have hd : decide (i < 8) = true := by simp [hlt]
      have hd1 : decide ((i : Int) < 8) = true := by simp; omega
      obtain ⟨m, hm⟩ : ∃ m, x % 16 = m := ⟨_, rfl⟩
      obtain ⟨q, hq⟩ : ∃ q, x / 16 = q := ⟨_, rfl⟩
      have ml : m < 16 := by omega
      have DS := Lib.hid (dig_sub m ml)
      have mm : (x : Int) % 16 = (m : Int) := by omega
      have md : (x : Int) / 16 = (q : Int) := by omega
      have HM := Lib.hid hm
      have HQ := Lib.hid hq
      clear hm hq
      go_wp2_with fail
      have MK := Lib.hid (show k / 16 ^ i % 16 = (m : Int) by rw [← H.out.1]; exact mm)
      have QK := Lib.hid (show (q : Int) = k / 16 ^ (i + 1) by rw [← md, H.out.1, Int.pow_succ, Int.ediv_ediv, if_neg (fun h => absurd h.1 (Int.not_lt.2 (Int.le_of_lt (Int.pow_pos (by decide))))), Int.sub_zero])
      have TK := Lib.hid (show (⟨#[48, 49, 50, 51, 52, 53, 54, 55, 56, 57, 97, 98, 99, 100, 101, 102]⟩ : ByteArray).extract m (m + 1) ++ t = strOfNums (digB k (i + 1)) by
        rw [DS.out, H.out.2.1, str_app, digB, MK.out]; rfl)
      have SK := Lib.hid (show ((⟨#[48, 49, 50, 51, 52, 53, 54, 55, 56, 57, 97, 98, 99, 100, 101, 102]⟩ : ByteArray).extract m (m + 1) ++ t).size = i + 1 by
        rw [TK.out, num_size, digB_len])
      go_round
      case rel => exact ⟨i + 1, q, _, by omega, rfl, rfl, by go_num, by (have h5 := HQ.out; omega), by rw [SK.out]; omega, Lib.hid ⟨QK.out, TK.out, SK.out⟩⟩
      case measure => simp [intOf]; omega
    · obtain rfl : i = 8 := by omega
      have E := Lib.hid (show t = strOfNums (hex8 k) by rw [H.out.2.1, H8.out])
      go_wp2_with fail
      go_ret
      exact ⟨by rw [← E.out]; rfl, rfl⟩
end Go.Proofs.YtfhbpgickkibmaaGreatDoor
namespace Go.Proofs.YtfhbpgickkibmaaGreatDoor
open Go.RowKit

/-- What the walk keeps of memory: the result's block, the parameters. -/
structure QN (w : World) (T : TypeId) (Z : List Value) (A : Option Addr) (cs : List Value) (wr : World) : Prop where
  bw : Below w.heap.size w wr
  r : Row wr w.heap.size T Z
  p : Rds wr wr.heap.size A cs
theorem QN.below {w : World} {T : TypeId} {Z : List Value} {A : Option Addr} {cs : List Value} {wr w' : World} (h : QN w T Z A cs wr) (hb : Below wr.heap.size wr w') : QN w T Z A cs w' :=
  ⟨bthen h.bw hb, h.r.below hb, (h.p.below hb).up hb.size⟩
theorem gotL_gotF' {l : List (List Int × List Int)} (nm : List Int) (h : ∀ q ∈ l, fldOK 4000000 q) (hn : lowS nm = nm) : gotL (l.map prmOf) nm = gotF l nm := by
  unfold gotL gotF
  rw [getP_getF (fun q hq => (h q hq).2.2.2.2) hn]
theorem has_missing {l : List (List Int × List Int)} (h : ∀ q ∈ l, fldOK 4000000 q) : hasL (l.map prmOf) NMS = !missing l := by
  unfold hasL missing
  rw [List.all_eq_not_any_not]
  congr 1
  unfold NMS
  have hg := fun nm (hn : lowS nm = nm) => getP_getF (acc := l) (nm := nm) (fun q hq => (h q hq).2.2.2.2) hn
  simp only [List.any_cons, List.any_nil]
  rw [hg USER (by decide), hg REALM (by decide), hg NONCE (by decide), hg URI (by decide), hg RESP (by decide), hg CNONCE (by decide), hg NC (by decide)]
theorem prmBy_of' {l : List (List Int × List Int)} (h : ∀ q ∈ l, fldOK 4000000 q) : ∀ p ∈ l.map prmOf, prmBy p := fun p hp => by
  obtain ⟨q, hq, rfl⟩ := List.mem_map.1 hp
  obtain ⟨a1, a2, a3, a4, _⟩ := h q hq
  exact ⟨a1, a2, a3, a4⟩
theorem rds_new' (w : World) (T : TypeId) (vs : List Value) : Rds (w.alloc (.cells vs.toArray T)) (w.alloc (.cells vs.toArray T)).heap.size (some ⟨w.heap.size, 0, none⟩) vs := fun _ =>
  ⟨w.heap.size, 0, rfl, (Row.new w T vs).lt, fun j u hu => by rw [Nat.zero_add, (Row.new w T vs).cell j]; exact hu⟩
set_option maxRecDepth 100000 in
set_option maxHeartbeats 2000000 in
theorem refparsecr_any (s : ByteArray) (w : World) (hs : s.size ≤ 4000000) : Calls Tryz.prog 13 #[.string s] w fun e w' => e = .returned (crV (parseCr (byteL s))) ∧ Below w.heap.size w w' := by
  have PF := Lib.hid (fun l (h : fieldsL (byteL s) = .ok l) => show parseCr (byteL s) = if missing l = true then .error 8
    else if lowS (gotF l ALG) ≠ SHA then .error 15
    else if gotF l QOP ≠ AUTHI ∧ gotF l QOP ≠ AUTH then .error 15
    else if goodU (gotF l NC) = false ∨ (gotF l NC).length / 2 ≠ 4 then .error 5
    else .ok ⟨gotF l USER, gotF l REALM, gotF l NONCE, gotF l URI, gotF l RESP, gotF l CNONCE, gotF l OPAQUE, numL (unL (gotF l NC) 4), gotF l QOP == AUTHI⟩ by unfold parseCr; rw [h])
  have PB := Lib.hid (fun k (h : fieldsL (byteL s) = .error k) => show crV (parseCr (byteL s)) = .tuple #[.agg Z9.toArray, .int .u8 k] by unfold parseCr; rw [h]; rfl)
  have FO := Lib.hid (fun l (h : fieldsL (byteL s) = .ok l) => (fieldsL_ok (byteL_by s) (by rw [byteL_len]; omega) h))
  have VB := Lib.hid (fun k (h : parseCr (byteL s) = .error k) => show crV (parseCr (byteL s)) = .tuple #[.agg Z9.toArray, .int .u8 k] by rw [h]; rfl)
  have VY := Lib.hid (fun c (h : parseCr (byteL s) = .ok c) => show crV (parseCr (byteL s)) = .tuple #[.agg (crC c).toArray, .int .u8 0] by rw [h]; rfl)
  generalize hV : crV (parseCr (byteL s)) = VV at *
  clear hV
  generalize hP : parseCr (byteL s) = PP at *
  clear hP
  have R0 := Lib.hid (Row.new w 23 Z9)
  have B0 := Lib.hid ((Below.refl w.heap.size w).alloc (Nat.le_refl _) (.cells Z9.toArray 23))
  go_enter Tryz.func13, Tryz.ntmps13
  go_wp2_with fail
  refine (reffields_any s _ hs).mono ?_
  rintro e w1 hp
  cases hF : fieldsL (byteL s) with
  | error k =>
    unfold FldR at hp
    rw [hF] at hp
    obtain ⟨hb1, rfl⟩ := hp
    have B1 := Lib.hid (bthen B0.out hb1)
    have R1 := Lib.hid (R0.out.below hb1)
    clear hb1 R0 B0
    have hb : (k != 0) = true := by simpa using fieldsL_err hF
    have E := Lib.hid (PB.out k hF)
    clear hF
    go_wp2_with (with_reducible refine wpList_storeR rfl 23 (.tmp 2) (.tmp 15) rfl R1.out Z9 rfl rfl (lenL9 _ _ _ _ _ _ _ _ _ _ _ _ _ _ _ _ _ _) (sizeL9 _ _ _ _ _ _ _ _ _) (p9_one _ _ _ _ _ _ _ _ _) B1.out (Nat.le_refl _) ?_)
    intro w90 R9 B9 _
    go_wp2_with fail
    exact bodyPost_ret (results_ct rfl _ _ _ w.heap.size Z9 _ rfl R9.out.range Tryz.underlying23 rfl size9) rfl ⟨by rw [E.out]; rfl, B9.out⟩
  | ok l =>
    unfold FldR at hp
    rw [hF] at hp
    obtain ⟨v, rfl, hR⟩ := hp
    obtain ⟨A, c, rfl, hnc, hrd⟩ := hR.rds
    have M1 := Lib.hid (show QN w 23 Z9 A (prms (l.map prmOf)) w1 from ⟨bthen B0.out hR.bw, R0.out.below hR.bw, hrd⟩)
    have PE := Lib.hid (PF.out l hF)
    obtain ⟨hfo, hll⟩ := FO.out l hF
    have AO := Lib.hid (gotF_ok ALG hfo)
    have QO := Lib.hid (gotF_ok QOP hfo)
    have NO := Lib.hid (gotF_ok NC hfo)
    have GL := Lib.hid (fun nm hn => gotL_gotF' (l := l) nm hfo hn)
    have HM := Lib.hid (has_missing (l := l) hfo)
    have PS := Lib.hid (prmBy_of' hfo)
    have PL := Lib.hid (show (l.map prmOf).length = l.length from List.length_map _)
    have hN : (l.map prmOf).length ≤ 16000000 := by rw [PL.out]; omega
    clear hR hrd hF hfo hll R0 B0 PF PB FO PL
    generalize hn : (l.map prmOf).length = n at *
    have HN := Lib.hid hn
    clear hn
    have N2 := Lib.hid (rds_new' w1 9 [.string ⟨#[117, 115, 101, 114, 110, 97, 109, 101]⟩, .string ⟨#[114, 101, 97, 108, 109]⟩, .string ⟨#[110, 111, 110, 99, 101]⟩, .string ⟨#[117, 114, 105]⟩, .string ⟨#[114, 101, 115, 112, 111, 110, 115, 101]⟩, .string ⟨#[99, 110, 111, 110, 99, 101]⟩, .string ⟨#[110, 99]⟩])
    have M2 := Lib.hid (M1.out.below ((Below.refl w1.heap.size w1).alloc (Nat.le_refl _) (.cells #[.string ⟨#[117, 115, 101, 114, 110, 97, 109, 101]⟩, .string ⟨#[114, 101, 97, 108, 109]⟩, .string ⟨#[110, 111, 110, 99, 101]⟩, .string ⟨#[117, 114, 105]⟩, .string ⟨#[114, 101, 115, 112, 111, 110, 115, 101]⟩, .string ⟨#[99, 110, 111, 110, 99, 101]⟩, .string ⟨#[110, 99]⟩] 9)))
    go_wp2_with fail
    refine (has_any A _ n c 7 7 (l.map prmOf) [⟨#[117, 115, 101, 114, 110, 97, 109, 101]⟩, ⟨#[114, 101, 97, 108, 109]⟩, ⟨#[110, 111, 110, 99, 101]⟩, ⟨#[117, 114, 105]⟩, ⟨#[114, 101, 115, 112, 111, 110, 115, 101]⟩, ⟨#[99, 110, 111, 110, 99, 101]⟩, ⟨#[110, 99]⟩] _ M2.out.p HN.out PS.out hN N2.out rfl (by
      intro z hz
      simp only [List.mem_cons, List.not_mem_nil, or_false] at hz
      rcases hz with rfl | rfl | rfl | rfl | rfl | rfl | rfl <;> decide) (by decide)).mono ?_
    rintro e w3 ⟨rfl, hb3⟩
    have M3 := Lib.hid (M2.out.below hb3)
    clear hb3 M1 M2 N2
    rw [show [⟨#[117, 115, 101, 114, 110, 97, 109, 101]⟩, ⟨#[114, 101, 97, 108, 109]⟩, ⟨#[110, 111, 110, 99, 101]⟩, ⟨#[117, 114, 105]⟩, ⟨#[114, 101, 115, 112, 111, 110, 115, 101]⟩, ⟨#[99, 110, 111, 110, 99, 101]⟩, ⟨#[110, 99]⟩].map byteL = NMS from rfl, HM.out]
    clear HM
    cases hms : missing l with
    | true =>
      have E := Lib.hid (VB.out 8 (PE.out.trans (if_pos hms)))
      rw [show (!true) = false from rfl]
      clear hms
      go_wp2_with (with_reducible refine wpList_storeR rfl 23 (.tmp 2) (.tmp 21) rfl M3.out.r Z9 rfl rfl (lenL9 _ _ _ _ _ _ _ _ _ _ _ _ _ _ _ _ _ _) (sizeL9 _ _ _ _ _ _ _ _ _) (p9_one _ _ _ _ _ _ _ _ _) M3.out.bw (Nat.le_refl _) ?_)
      intro w90 R9 B9 _
      go_wp2_with fail
      exact bodyPost_ret (results_ct rfl _ _ _ w.heap.size Z9 _ rfl R9.out.range Tryz.underlying23 rfl size9) rfl ⟨by rw [E.out]; rfl, B9.out⟩
    | false =>
      have PE0 := Lib.hid (PE.out.trans (if_neg (by rw [hms]; decide)))
      rw [show (!false) = true from rfl]
      clear hms PE
      go_wp2_with fail
      refine (gets_any A n c (l.map prmOf) _ _ M3.out.p HN.out PS.out hN (by decide)).mono ?_
      rintro e w4 ⟨rfl, hb⟩
      have M4 := Lib.hid (M3.out.below hb)
      clear hb M3
      rw [show byteL ⟨#[113, 111, 112]⟩ = QOP from rfl, GL.out QOP (by decide)]
      generalize gotF l QOP = gq at *
      go_wp2_with fail
      refine (gets_any A n c (l.map prmOf) _ _ M4.out.p HN.out PS.out hN (by decide)).mono ?_
      rintro e w5 ⟨rfl, hb⟩
      have M5 := Lib.hid (M4.out.below hb)
      clear hb M4
      rw [show byteL ⟨#[97, 108, 103, 111, 114, 105, 116, 104, 109]⟩ = ALG from rfl, GL.out ALG (by decide)]
      generalize gotF l ALG = ga at *
      go_wp2_with fail
      refine (reflower_any _ _ (by rw [num_size]; exact AO.out.2)).mono ?_
      rintro e w6 ⟨rfl, hb⟩
      have M6 := Lib.hid (M5.out.below hb)
      clear hb M5
      rw [byteL_str AO.out.1]
      have BL := Lib.hid (lowS_by AO.out.1)
      have DQ := Lib.hid (show (strOfNums (lowS ga)).toList = [115, 104, 97, 45, 50, 53, 54] ↔ lowS ga = SHA from lit_eq BL.out _)
      generalize lowS ga = LW at *
      have DA := Lib.hid (show (strOfNums gq).toList = [97, 117, 116, 104] ↔ gq = AUTH from lit_eq QO.out.1 _)
      have DI := Lib.hid (show (strOfNums gq).toList = [97, 117, 116, 104, 45, 105, 110, 116] ↔ gq = AUTHI from lit_eq QO.out.1 _)
      by_cases hD : LW = SHA
      · have q := DQ.out.2 hD
        have PE1 := Lib.hid (PE0.out.trans (if_neg (fun h => h hD)))
        clear hD
        by_cases hI : gq = AUTHI
        · have qi := DI.out.2 hI
          have PE2 := Lib.hid (PE1.out.trans (if_neg (fun h => h.1 hI)))
          have GB := Lib.hid (show (gq == AUTHI) = true by simpa using hI)
          rw [GB.out] at PE2
          clear hI
          go_wp2_with fail
          refine (gets_any A n c (l.map prmOf) _ _ M6.out.p HN.out PS.out hN (by decide)).mono ?_
          rintro e w7 ⟨rfl, hb⟩
          have M7 := Lib.hid (M6.out.below hb)
          clear hb M6
          rw [show byteL ⟨#[110, 99]⟩ = NC from rfl, GL.out NC (by decide)]
          generalize gotF l NC = g7 at *
          go_wp2_with fail
          refine (refcount_any _ _ (by rw [num_size]; exact NO.out.2)).mono ?_
          rintro e w8 ⟨rfl, rfl⟩
          rw [byteL_str NO.out.1]
          by_cases hbd : goodU g7 = false ∨ g7.length / 2 ≠ 4
          · have E := Lib.hid (VB.out 5 (PE2.out.trans (if_pos hbd)))
            rw [count_bad hbd]
            clear hbd
            go_wp2_with (with_reducible refine wpList_storeR rfl 23 (.tmp 2) (.tmp 42) rfl M7.out.r Z9 rfl rfl (lenL9 _ _ _ _ _ _ _ _ _ _ _ _ _ _ _ _ _ _) (sizeL9 _ _ _ _ _ _ _ _ _) (p9_one _ _ _ _ _ _ _ _ _) M7.out.bw (Nat.le_refl _) ?_)
            intro w90 R9 B9 _
            go_wp2_with fail
            exact bodyPost_ret (results_ct rfl _ _ _ w.heap.size Z9 _ rfl R9.out.range Tryz.underlying23 rfl size9) rfl ⟨by rw [E.out]; rfl, B9.out⟩
          · have PE3 := Lib.hid (PE2.out.trans (if_neg hbd))
            obtain ⟨hc1, hc2⟩ := count_good hbd
            rw [← hc1] at PE3
            clear hbd hc1
            generalize countR g7 = y at *
            have y0 : decide (y < 0) = false := by simp; omega
            clear hc2
            go_wp2_with fail
            refine (gets_any A n c (l.map prmOf) _ _ M7.out.p HN.out PS.out hN (by decide)).mono ?_
            rintro e w8 ⟨rfl, hb⟩
            have M8 := Lib.hid (M7.out.below hb)
            clear hb M7
            rw [show byteL ⟨#[117, 115, 101, 114, 110, 97, 109, 101]⟩ = USER from rfl, GL.out USER (by decide)]
            generalize gotF l USER = g1 at *
            go_wp2_with fail
            refine (gets_any A n c (l.map prmOf) _ _ M8.out.p HN.out PS.out hN (by decide)).mono ?_
            rintro e w9 ⟨rfl, hb⟩
            have M9 := Lib.hid (M8.out.below hb)
            clear hb M8
            rw [show byteL ⟨#[114, 101, 97, 108, 109]⟩ = REALM from rfl, GL.out REALM (by decide)]
            generalize gotF l REALM = g2 at *
            go_wp2_with fail
            refine (gets_any A n c (l.map prmOf) _ _ M9.out.p HN.out PS.out hN (by decide)).mono ?_
            rintro e w10 ⟨rfl, hb⟩
            have M10 := Lib.hid (M9.out.below hb)
            clear hb M9
            rw [show byteL ⟨#[110, 111, 110, 99, 101]⟩ = NONCE from rfl, GL.out NONCE (by decide)]
            generalize gotF l NONCE = g3 at *
            go_wp2_with fail
            refine (gets_any A n c (l.map prmOf) _ _ M10.out.p HN.out PS.out hN (by decide)).mono ?_
            rintro e w11 ⟨rfl, hb⟩
            have M11 := Lib.hid (M10.out.below hb)
            clear hb M10
            rw [show byteL ⟨#[117, 114, 105]⟩ = URI from rfl, GL.out URI (by decide)]
            generalize gotF l URI = g4 at *
            go_wp2_with fail
            refine (gets_any A n c (l.map prmOf) _ _ M11.out.p HN.out PS.out hN (by decide)).mono ?_
            rintro e w12 ⟨rfl, hb⟩
            have M12 := Lib.hid (M11.out.below hb)
            clear hb M11
            rw [show byteL ⟨#[114, 101, 115, 112, 111, 110, 115, 101]⟩ = RESP from rfl, GL.out RESP (by decide)]
            generalize gotF l RESP = g5 at *
            go_wp2_with fail
            refine (gets_any A n c (l.map prmOf) _ _ M12.out.p HN.out PS.out hN (by decide)).mono ?_
            rintro e w13 ⟨rfl, hb⟩
            have M13 := Lib.hid (M12.out.below hb)
            clear hb M12
            rw [show byteL ⟨#[99, 110, 111, 110, 99, 101]⟩ = CNONCE from rfl, GL.out CNONCE (by decide)]
            generalize gotF l CNONCE = g6 at *
            go_wp2_with fail
            refine (gets_any A n c (l.map prmOf) _ _ M13.out.p HN.out PS.out hN (by decide)).mono ?_
            rintro e w14 ⟨rfl, hb⟩
            have M14 := Lib.hid (M13.out.below hb)
            clear hb M13
            rw [show byteL ⟨#[111, 112, 97, 113, 117, 101]⟩ = OPAQUE from rfl, GL.out OPAQUE (by decide)]
            generalize gotF l OPAQUE = go at *
            have E := Lib.hid (VY.out ⟨g1, g2, g3, g4, g5, g6, go, y, true⟩ PE3.out)
            go_wp2_with (with_reducible refine wpList_storeR rfl 23 (.tmp 2) (.tmp 60) rfl M14.out.r [.string (strOfNums g1), .string (strOfNums g2), .string (strOfNums g3), .string (strOfNums g4), .string (strOfNums g5), .string (strOfNums g6), .string (strOfNums go), .int .i64 y, .bool true] rfl rfl (lenL9 _ _ _ _ _ _ _ _ _ _ _ _ _ _ _ _ _ _) (sizeL9 _ _ _ _ _ _ _ _ _) (p9_one _ _ _ _ _ _ _ _ _) M14.out.bw (Nat.le_refl _) ?_)
            intro w90 R9 B9 _
            go_wp2_with fail
            exact bodyPost_ret (results_ct rfl _ _ _ w.heap.size [.string (strOfNums g1), .string (strOfNums g2), .string (strOfNums g3), .string (strOfNums g4), .string (strOfNums g5), .string (strOfNums g6), .string (strOfNums go), .int .i64 y, .bool true] _ rfl R9.out.range Tryz.underlying23 rfl size9) rfl ⟨by rw [E.out]; rfl, B9.out⟩
        · have qi : ((strOfNums gq).toList == ([97, 117, 116, 104, 45, 105, 110, 116] : List UInt8)) = false := by
            rw [Bool.eq_false_iff]; intro h; exact hI (DI.out.1 (by simpa using h))
          have GB := Lib.hid (show (gq == AUTHI) = false by simpa using hI)
          by_cases hA : gq = AUTH
          · have qa := DA.out.2 hA
            have PE2 := Lib.hid (PE1.out.trans (if_neg (fun h => h.2 hA)))
            rw [GB.out] at PE2
            have HI := Lib.hid hI
            clear hA hI
            rw [qa] at qi
            go_wp2_with fail
            refine (gets_any A n c (l.map prmOf) _ _ M6.out.p HN.out PS.out hN (by decide)).mono ?_
            rintro e w7 ⟨rfl, hb⟩
            have M7 := Lib.hid (M6.out.below hb)
            clear hb M6
            rw [show byteL ⟨#[110, 99]⟩ = NC from rfl, GL.out NC (by decide)]
            generalize gotF l NC = g7 at *
            go_wp2_with fail
            refine (refcount_any _ _ (by rw [num_size]; exact NO.out.2)).mono ?_
            rintro e w8 ⟨rfl, rfl⟩
            rw [byteL_str NO.out.1]
            by_cases hbd : goodU g7 = false ∨ g7.length / 2 ≠ 4
            · have E := Lib.hid (VB.out 5 (PE2.out.trans (if_pos hbd)))
              rw [count_bad hbd]
              clear hbd
              go_wp2_with (with_reducible refine wpList_storeR rfl 23 (.tmp 2) (.tmp 42) rfl M7.out.r Z9 rfl rfl (lenL9 _ _ _ _ _ _ _ _ _ _ _ _ _ _ _ _ _ _) (sizeL9 _ _ _ _ _ _ _ _ _) (p9_one _ _ _ _ _ _ _ _ _) M7.out.bw (Nat.le_refl _) ?_)
              intro w90 R9 B9 _
              go_wp2_with fail
              exact bodyPost_ret (results_ct rfl _ _ _ w.heap.size Z9 _ rfl R9.out.range Tryz.underlying23 rfl size9) rfl ⟨by rw [E.out]; rfl, B9.out⟩
            · have PE3 := Lib.hid (PE2.out.trans (if_neg hbd))
              obtain ⟨hc1, hc2⟩ := count_good hbd
              rw [← hc1] at PE3
              clear hbd hc1
              generalize countR g7 = y at *
              have y0 : decide (y < 0) = false := by simp; omega
              clear hc2
              go_wp2_with fail
              refine (gets_any A n c (l.map prmOf) _ _ M7.out.p HN.out PS.out hN (by decide)).mono ?_
              rintro e w8 ⟨rfl, hb⟩
              have M8 := Lib.hid (M7.out.below hb)
              clear hb M7
              rw [show byteL ⟨#[117, 115, 101, 114, 110, 97, 109, 101]⟩ = USER from rfl, GL.out USER (by decide)]
              generalize gotF l USER = g1 at *
              go_wp2_with fail
              refine (gets_any A n c (l.map prmOf) _ _ M8.out.p HN.out PS.out hN (by decide)).mono ?_
              rintro e w9 ⟨rfl, hb⟩
              have M9 := Lib.hid (M8.out.below hb)
              clear hb M8
              rw [show byteL ⟨#[114, 101, 97, 108, 109]⟩ = REALM from rfl, GL.out REALM (by decide)]
              generalize gotF l REALM = g2 at *
              go_wp2_with fail
              refine (gets_any A n c (l.map prmOf) _ _ M9.out.p HN.out PS.out hN (by decide)).mono ?_
              rintro e w10 ⟨rfl, hb⟩
              have M10 := Lib.hid (M9.out.below hb)
              clear hb M9
              rw [show byteL ⟨#[110, 111, 110, 99, 101]⟩ = NONCE from rfl, GL.out NONCE (by decide)]
              generalize gotF l NONCE = g3 at *
              go_wp2_with fail
              refine (gets_any A n c (l.map prmOf) _ _ M10.out.p HN.out PS.out hN (by decide)).mono ?_
              rintro e w11 ⟨rfl, hb⟩
              have M11 := Lib.hid (M10.out.below hb)
              clear hb M10
              rw [show byteL ⟨#[117, 114, 105]⟩ = URI from rfl, GL.out URI (by decide)]
              generalize gotF l URI = g4 at *
              go_wp2_with fail
              refine (gets_any A n c (l.map prmOf) _ _ M11.out.p HN.out PS.out hN (by decide)).mono ?_
              rintro e w12 ⟨rfl, hb⟩
              have M12 := Lib.hid (M11.out.below hb)
              clear hb M11
              rw [show byteL ⟨#[114, 101, 115, 112, 111, 110, 115, 101]⟩ = RESP from rfl, GL.out RESP (by decide)]
              generalize gotF l RESP = g5 at *
              go_wp2_with fail
              refine (gets_any A n c (l.map prmOf) _ _ M12.out.p HN.out PS.out hN (by decide)).mono ?_
              rintro e w13 ⟨rfl, hb⟩
              have M13 := Lib.hid (M12.out.below hb)
              clear hb M12
              rw [show byteL ⟨#[99, 110, 111, 110, 99, 101]⟩ = CNONCE from rfl, GL.out CNONCE (by decide)]
              generalize gotF l CNONCE = g6 at *
              go_wp2_with fail
              refine (gets_any A n c (l.map prmOf) _ _ M13.out.p HN.out PS.out hN (by decide)).mono ?_
              rintro e w14 ⟨rfl, hb⟩
              have M14 := Lib.hid (M13.out.below hb)
              clear hb M13
              rw [show byteL ⟨#[111, 112, 97, 113, 117, 101]⟩ = OPAQUE from rfl, GL.out OPAQUE (by decide)]
              generalize gotF l OPAQUE = go at *
              have E := Lib.hid (VY.out ⟨g1, g2, g3, g4, g5, g6, go, y, false⟩ PE3.out)
              go_wp2_with (with_reducible refine wpList_storeR rfl 23 (.tmp 2) (.tmp 60) rfl M14.out.r [.string (strOfNums g1), .string (strOfNums g2), .string (strOfNums g3), .string (strOfNums g4), .string (strOfNums g5), .string (strOfNums g6), .string (strOfNums go), .int .i64 y, .bool false] rfl rfl (lenL9 _ _ _ _ _ _ _ _ _ _ _ _ _ _ _ _ _ _) (sizeL9 _ _ _ _ _ _ _ _ _) (p9_one _ _ _ _ _ _ _ _ _) M14.out.bw (Nat.le_refl _) ?_)
              intro w90 R9 B9 _
              go_wp2_with fail
              exact bodyPost_ret (results_ct rfl _ _ _ w.heap.size [.string (strOfNums g1), .string (strOfNums g2), .string (strOfNums g3), .string (strOfNums g4), .string (strOfNums g5), .string (strOfNums g6), .string (strOfNums go), .int .i64 y, .bool false] _ rfl R9.out.range Tryz.underlying23 rfl size9) rfl ⟨by rw [E.out]; rfl, B9.out⟩
          · have qa : ((strOfNums gq).toList == ([97, 117, 116, 104] : List UInt8)) = false := by
              rw [Bool.eq_false_iff]; intro h; exact hA (DA.out.1 (by simpa using h))
            have E := Lib.hid (VB.out 15 (PE1.out.trans (if_pos ⟨hI, hA⟩)))
            clear hA hI
            go_wp2_with (with_reducible refine wpList_storeR rfl 23 (.tmp 2) (.tmp 36) rfl M6.out.r Z9 rfl rfl (lenL9 _ _ _ _ _ _ _ _ _ _ _ _ _ _ _ _ _ _) (sizeL9 _ _ _ _ _ _ _ _ _) (p9_one _ _ _ _ _ _ _ _ _) M6.out.bw (Nat.le_refl _) ?_)
            intro w90 R9 B9 _
            go_wp2_with fail
            exact bodyPost_ret (results_ct rfl _ _ _ w.heap.size Z9 _ rfl R9.out.range Tryz.underlying23 rfl size9) rfl ⟨by rw [E.out]; rfl, B9.out⟩
      · have q : ((strOfNums LW).toList == ([115, 104, 97, 45, 50, 53, 54] : List UInt8)) = false := by
          rw [Bool.eq_false_iff]; intro h; exact hD (DQ.out.1 (by simpa using h))
        have E := Lib.hid (VB.out 15 (PE0.out.trans (if_pos hD)))
        clear hD
        go_wp2_with (with_reducible refine wpList_storeR rfl 23 (.tmp 2) (.tmp 36) rfl M6.out.r Z9 rfl rfl (lenL9 _ _ _ _ _ _ _ _ _ _ _ _ _ _ _ _ _ _) (sizeL9 _ _ _ _ _ _ _ _ _) (p9_one _ _ _ _ _ _ _ _ _) M6.out.bw (Nat.le_refl _) ?_)
        intro w90 R9 B9 _
        go_wp2_with fail
        exact bodyPost_ret (results_ct rfl _ _ _ w.heap.size Z9 _ rfl R9.out.range Tryz.underlying23 rfl size9) rfl ⟨by rw [E.out]; rfl, B9.out⟩
end Go.Proofs.YtfhbpgickkibmaaGreatDoor
