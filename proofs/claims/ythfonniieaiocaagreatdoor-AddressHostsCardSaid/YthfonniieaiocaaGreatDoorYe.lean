/- The law AddressHosts. What the row on hosts needs: an array of uint16, opened. -/
import Derived.Test.YthfonniieaiocaaGreatDoorWh
import Derived.Test.YthfonniieaiocaaGreatDoorYa
set_option linter.unusedVariables false
set_option linter.unusedSimpArgs false
namespace Go.Proofs.YthfonniieaiocaaGreatDoor
open Go.RowKit

def dlF (f : Nat → Nat) (i : Nat) : List (List Int) := (List.range i).map fun j => decL ((f j % 1000 : Nat) : Int)
theorem dlF_succ (f : Nat → Nat) (i : Nat) : dlF f (i + 1) = dlF f i ++ [decL ((f i % 1000 : Nat) : Int)] := by unfold dlF; rw [List.range_succ, List.map_append]; rfl
def gdF (f : Nat → Nat) (i : Nat) : Bool := (List.range i).all fun j => decide (f j % 1000 ≤ 255)
theorem gdF_succ (f : Nat → Nat) (i : Nat) : gdF f (i + 1) = (gdF f i && decide (f i % 1000 ≤ 255)) := by unfold gdF; rw [List.range_succ, List.all_append]; simp
theorem dots_succ (f : Nat → Nat) (i : Nat) : joinL [46] (dlF f (i + 1)) = (if i = 0 then [] else joinL [46] (dlF f i) ++ [46]) ++ decL ((f i % 1000 : Nat) : Int) := by
  rw [dlF_succ]
  by_cases h : i = 0
  · subst h; rw [if_pos rfl]; exact joinL_one _ _
  · rw [if_neg h, joinL_snoc _ _ _ (by unfold dlF; intro e; have := congrArg List.length e; simp at this; exact h this), List.append_assoc]
theorem eight_at (e : Nat → Nat) {i : Nat} (h : i < 8) : [Value.int .u16 (e 0), .int .u16 (e 1), .int .u16 (e 2), .int .u16 (e 3), .int .u16 (e 4), .int .u16 (e 5), .int .u16 (e 6), .int .u16 (e 7)][i]? = some (.int .u16 (e i)) := by
  rcases (show i = 0 ∨ i = 1 ∨ i = 2 ∨ i = 3 ∨ i = 4 ∨ i = 5 ∨ i = 6 ∨ i = 7 by omega) with rfl | rfl | rfl | rfl | rfl | rfl | rfl | rfl <;> rfl
theorem four_at (f : Nat → Nat) {i : Nat} (h : i < 4) : [Value.int .u16 (f 0), .int .u16 (f 1), .int .u16 (f 2), .int .u16 (f 3)][i]? = some (.int .u16 (f i)) := by
  rcases (show i = 0 ∨ i = 1 ∨ i = 2 ∨ i = 3 by omega) with rfl | rfl | rfl | rfl <;> rfl
def hxE (e : Nat → Nat) (a n : Nat) : List (List Int) := (List.range' a n).map fun j => hexG (e j)
theorem hxE_zero (e : Nat → Nat) (a : Nat) : hxE e a 0 = [] := rfl
theorem hxE_join (e : Nat → Nat) (a n : Nat) : joinL [58] (hxE e a (n + 1)) = (if n = 0 then [] else joinL [58] (hxE e a n) ++ [58]) ++ hexG (e (a + n)) := by
  have h1 : hxE e a (n + 1) = hxE e a n ++ [hexG (e (a + n))] := by unfold hxE; rw [List.range'_concat, List.map_append]; simp
  rw [h1]
  by_cases h : n = 0
  · subst h; rw [if_pos rfl]; exact joinL_one _ _
  · rw [if_neg h, joinL_snoc _ _ _ (by unfold hxE; intro e; have := congrArg List.length e; simp at this; exact h this), List.append_assoc]
/-- What the second loop has in hand: three texts. -/
def H2R (e : Nat → Nat) (K i : Nat) (x y z : ByteArray) : Prop := x = strOfNums (joinL [58] (hxE e 0 i)) ∧ y = strOfNums (joinL [58] (hxE e 0 (min i K))) ∧ z = strOfNums (joinL [58] (hxE e (K + 1) (i - (K + 1)))) ∧ x.size ≤ 70000 * i ∧ y.size ≤ 70000 * i ∧ z.size ≤ 70000 * i
theorem H2R.start (e : Nat → Nat) (K : Nat) : H2R e K 0 ⟨#[]⟩ ⟨#[]⟩ ⟨#[]⟩ := by
  refine ⟨rfl, ?_, ?_, Nat.le_refl _, Nat.le_refl _, Nat.le_refl _⟩
  · rw [Nat.zero_min]; rfl
  · rw [Nat.zero_sub]; rfl
theorem colon_str : (⟨#[58]⟩ : ByteArray) = strOfNums [58] := rfl
/-- One text more. -/
def addG (n : Nat) (x g : ByteArray) : ByteArray := (if n = 0 then x else x ++ (⟨#[58]⟩ : ByteArray)) ++ g
theorem addG_eq {e : Nat → Nat} {a n : Nat} {x : ByteArray} (hx : x = strOfNums (joinL [58] (hxE e a n))) : addG n x (strOfNums (hexG (e (a + n)))) = strOfNums (joinL [58] (hxE e a (n + 1))) := by
  unfold addG
  rw [hxE_join]
  by_cases h : n = 0
  · subst h; rw [if_pos rfl, if_pos rfl, hx, hxE_zero, joinL_nil, str_app]
  · rw [if_neg h, if_neg h, hx, colon_str, str_app, str_app]
theorem H2R.step {e : Nat → Nat} {K i : Nat} {x y z : ByteArray} (h : H2R e K i x y z) (he : e i < 65536) :
    H2R e K (i + 1) (addG i x (strOfNums (hexG (e i)))) (if i < K then addG i y (strOfNums (hexG (e i))) else y) (if K < i then addG (i - (K + 1)) z (strOfNums (hexG (e i))) else z) := by
  obtain ⟨h1, h2, h3, h4, h5, h6⟩ := h
  have hs := hexG_size (e i)
  have sz : ∀ (n : Nat) (t : ByteArray), t.size ≤ 70000 * i → (addG n t (strOfNums (hexG (e i)))).size ≤ 70000 * (i + 1) := fun n t ht => by
    unfold addG
    split
    · rw [ByteArray.size_append, num_size]; omega
    · rw [ByteArray.size_append, ByteArray.size_append, num_size, show (⟨#[58]⟩ : ByteArray).size = 1 from rfl]; omega
  refine ⟨?_, ?_, ?_, sz _ _ h4, ?_, ?_⟩
  · have := addG_eq (a := 0) (n := i) h1
    rw [Nat.zero_add] at this
    exact this
  · by_cases hk : i < K
    · rw [if_pos hk, Nat.min_eq_left (by omega)]
      rw [Nat.min_eq_left (by omega)] at h2
      have := addG_eq (a := 0) (n := i) h2
      rw [Nat.zero_add] at this
      exact this
    · rw [if_neg hk, Nat.min_eq_right (by omega)]
      rw [Nat.min_eq_right (by omega)] at h2
      exact h2
  · by_cases hk : K < i
    · rw [if_pos hk]
      have := addG_eq (a := K + 1) (n := i - (K + 1)) h3
      rw [show K + 1 + (i - (K + 1)) = i by omega] at this
      rw [show i + 1 - (K + 1) = i - (K + 1) + 1 by omega]
      exact this
    · rw [if_neg hk, show i + 1 - (K + 1) = i - (K + 1) by omega]
      exact h3
  · split
    · exact sz _ _ h5
    · omega
  · split
    · exact sz _ _ h6
    · omega
theorem hxE_eq (e : Nat → Nat) (a n : Nat) : hxE e a n = ((List.range' a n).map e).map hexG := by unfold hxE; rw [List.map_map]; rfl
theorem hexV_by {c : Int} (h : 0 ≤ hexV c) : 0 ≤ c ∧ c < 256 := by
  unfold hexV at h
  split at h
  · omega
  · split at h
    · omega
    · split at h <;> omega
theorem hexG_by (n : Nat) : By (hexG n) := fun c hc => hexV_by ((hexG_ok n).1 c hc).1
theorem grps_by (l : List Nat) : By (joinL [58] (l.map hexG)) := joinL_by2 (by unfold By; decide) fun p hp => by
  obtain ⟨n, _, rfl⟩ := List.mem_map.1 hp
  exact hexG_by n
theorem eight_host (e : Nat → Nat) (he : ∀ i, e i < 65536) {x : ByteArray} (hx : x = strOfNums (joinL [58] (hxE e 0 8))) : hostV (hostL (byteL (((⟨#[91]⟩ : ByteArray) ++ x) ++ (⟨#[93]⟩ : ByteArray)))) = .tuple #[.string (((⟨#[91]⟩ : ByteArray) ++ x) ++ (⟨#[93]⟩ : ByteArray)), .bool true] := by
  rw [hxE_eq] at hx
  have e1 : ((⟨#[91]⟩ : ByteArray) ++ x) ++ (⟨#[93]⟩ : ByteArray) = strOfNums ([91] ++ joinL [58] (((List.range' 0 8).map e).map hexG) ++ [93]) := by
    rw [hx, show (⟨#[91]⟩ : ByteArray) = strOfNums [91] from rfl, show (⟨#[93]⟩ : ByteArray) = strOfNums [93] from rfl, str_app, str_app]
  have hb : By ([91] ++ joinL [58] (((List.range' 0 8).map e).map hexG) ++ [93]) := fun c hc => by
    rcases List.mem_append.1 hc with hc | hc
    · rcases List.mem_append.1 hc with hc | hc
      · simp at hc; omega
      · exact grps_by _ c hc
    · simp at hc; omega
  rw [e1, byteL_str hb, eight_law (fun n hn => by obtain ⟨i, _, rfl⟩ := List.mem_map.1 hn; exact he i) (by simp)]
  rfl
theorem gap_host (e : Nat → Nat) (he : ∀ i, e i < 65536) {K : Nat} (hK : K < 8) {y z : ByteArray} (hy : y = strOfNums (joinL [58] (hxE e 0 K))) (hz : z = strOfNums (joinL [58] (hxE e (K + 1) (7 - K)))) : hostV (hostL (byteL (((((⟨#[91]⟩ : ByteArray) ++ y) ++ (⟨#[58, 58]⟩ : ByteArray)) ++ z) ++ (⟨#[93]⟩ : ByteArray)))) = .tuple #[.string (((((⟨#[91]⟩ : ByteArray) ++ y) ++ (⟨#[58, 58]⟩ : ByteArray)) ++ z) ++ (⟨#[93]⟩ : ByteArray)), .bool true] := by
  rw [hxE_eq] at hy hz
  have e1 : ((((⟨#[91]⟩ : ByteArray) ++ y) ++ (⟨#[58, 58]⟩ : ByteArray)) ++ z) ++ (⟨#[93]⟩ : ByteArray) = strOfNums ([91] ++ (joinL [58] (((List.range' 0 K).map e).map hexG) ++ ([58, 58] ++ joinL [58] (((List.range' (K + 1) (7 - K)).map e).map hexG))) ++ [93]) := by
    rw [hy, hz, show (⟨#[91]⟩ : ByteArray) = strOfNums [91] from rfl, show (⟨#[93]⟩ : ByteArray) = strOfNums [93] from rfl, show (⟨#[58, 58]⟩ : ByteArray) = strOfNums [58, 58] from rfl, str_app, str_app, str_app, str_app]
    congr 1
    simp
  have hb : By ([91] ++ (joinL [58] (((List.range' 0 K).map e).map hexG) ++ ([58, 58] ++ joinL [58] (((List.range' (K + 1) (7 - K)).map e).map hexG))) ++ [93]) := fun c hc => by
    rcases List.mem_append.1 hc with hc | hc
    · rcases List.mem_append.1 hc with hc | hc
      · simp at hc; omega
      · rcases List.mem_append.1 hc with hc | hc
        · exact grps_by _ c hc
        · rcases List.mem_append.1 hc with hc | hc
          · simp at hc; omega
          · exact grps_by _ c hc
    · simp at hc; omega
  rw [e1, byteL_str hb, gap_law (fun n hn => by obtain ⟨i, _, rfl⟩ := List.mem_map.1 hn; exact he i) (fun n hn => by obtain ⟨i, _, rfl⟩ := List.mem_map.1 hn; exact he i) (by simp; omega)]
  rfl
set_option maxRecDepth 100000 in
set_option maxHeartbeats 20000000 in
theorem hosts_any (f : Nat → Nat) (e : Nat → Nat) (gap sz : Int) (w : World) (hf : ∀ i, f i < 65536) (he : ∀ i, e i < 65536) (g0 : 0 ≤ gap) (g1 : gap ≤ 255) (z0 : 0 ≤ sz) (z1 : sz ≤ 255) (hC : CLS w) (hG : GM w) (hP : PT w) :
    Calls Tryz.prog 8 #[.agg #[.int .u16 (f 0), .int .u16 (f 1), .int .u16 (f 2), .int .u16 (f 3)], .agg #[.int .u16 (e 0), .int .u16 (e 1), .int .u16 (e 2), .int .u16 (e 3), .int .u16 (e 4), .int .u16 (e 5), .int .u16 (e 6), .int .u16 (e 7)], .int .u8 gap, .int .u8 sz] w fun e w' => e = .returned (.bool true) ∧ Below w.heap.size w w' := by
  obtain ⟨R1, R2, HB⟩ := two_rows w 47 48 [.int .u16 (f 0), .int .u16 (f 1), .int .u16 (f 2), .int .u16 (f 3)] [.int .u16 (e 0), .int .u16 (e 1), .int .u16 (e 2), .int .u16 (e 3), .int .u16 (e 4), .int .u16 (e 5), .int .u16 (e 6), .int .u16 (e 7)]
  have R1 := Lib.hid R1
  have R2 := Lib.hid R2
  have B0 := Lib.hid HB
  have HC := Lib.hid (fun w' (h : Below w.heap.size w w') => hC.below h)
  have HG := Lib.hid (fun w' (h : Below w.heap.size w w') => hG.below h)
  have HP := Lib.hid (fun w' (h : Below w.heap.size w w') => hP.below h)
  clear hC hG hP HB
  go_enter Tryz.func8, Tryz.ntmps8
  go_upto_region 1 with (fail)
  generalize (w.alloc (.cells #[.int .u16 (f 0), .int .u16 (f 1), .int .u16 (f 2), .int .u16 (f 3)] 47)).alloc (.cells #[.int .u16 (e 0), .int .u16 (e 1), .int .u16 (e 2), .int .u16 (e 3), .int .u16 (e 4), .int .u16 (e 5), .int .u16 (e 6), .int .u16 (e 7)] 48) = w2 at *
  generalize w.heap.size + 1 = g2 at *
  generalize hg : w.heap.size = g1 at *
  have SM := Lib.hid (fun (n : Nat) w' (h : n < 1000) => small_any n w' (by omega))
  have DLn := Lib.hid (fun (n : Nat) (h : n < 1000) => show (strOfNums (decL (n : Int))).size ≤ 21 by rw [num_size]; exact dec_size (by omega) (by omega))
  go_wp2_with fail
  go_loopw [9, 10, 11, 12] (fun v9 v10 v11 _ wr => ∃ (i : Nat) (d : ByteArray) (b : Bool), i ≤ 4 ∧ v9 = .string d ∧ v10 = .bool b ∧ v11 = .int .i64 i ∧ d.size ≤ 30 * i ∧ Hid (d = strOfNums (joinL [46] (dlF f i))) ∧ Hid (b = gdF f i) ∧ Hid (Below w2.heap.size w2 wr)) (fun _ _ v _ _ => 4 - (intOf v).toNat)
  case atStart => exact ⟨0, _, _, Nat.zero_le _, rfl, rfl, rfl, Nat.le_refl _, Lib.hid rfl, Lib.hid rfl, Lib.hid (Below.refl _ _)⟩
  case round =>
    obtain ⟨i, d, b, hi, rfl, rfl, rfl, hds, HD, HGD, HB⟩ := hrel
    by_cases hlt : i < 4
    · have hd : decide ((i : Int) < 4) = true := by simp; omega
      have kk : wr.cell? ⟨g1, i, none⟩ = some (.int .u16 (f i)) := (HB.out.cell (p := ⟨g1, i, none⟩) R1.out.lt).trans (by have := R1.out.range i _ (four_at f hlt); rwa [Nat.zero_add] at this)
      obtain ⟨m, hm⟩ : ∃ m, f i % 1000 = m := ⟨_, rfl⟩
      have ml : m < 1000 := by omega
      have md : (f i : Int) % 1000 = (m : Int) := by omega
      have hfi : f i < 65536 := hf i
      have JS := Lib.hid (dots_succ f i)
      have GS := Lib.hid (gdF_succ f i)
      rw [hm] at JS GS
      have SS := Lib.hid (fun w' => SM.out m w' ml)
      have LS := DLn.out m ml
      have KK := Lib.hid kk
      clear kk
      have FIN := Lib.hid (fun (d2 : ByteArray) wr' (h1 : d2 = strOfNums (joinL [46] (dlF f (i + 1)))) (hb : Below wr.heap.size wr wr') => show (d2 = strOfNums (joinL [46] (dlF f (i + 1)))) ∧ Below w2.heap.size w2 wr' from ⟨h1, bthen HB.out hb⟩)
      by_cases hi0 : i = 0
      · subst hi0
        obtain rfl : d = ⟨#[]⟩ := by rw [HD.out]; rfl
        have k0 := KK.out
        have EQ : (⟨#[]⟩ : ByteArray) ++ strOfNums (decL (m : Int)) = strOfNums (joinL [46] (dlF f (0 + 1))) := by rw [JS.out, if_pos rfl]; rfl
        go_wp2_with fail
        refine (SS.out _).mono ?_
        rintro _ w3 ⟨rfl, hb3⟩
        have B3 := Lib.hid hb3
        have DS : ∀ w, (Op.stringOp .add (⟨#[]⟩ : ByteArray) (strOfNums (decL (m : Int)))).run Tryz.prog w = .ok (.string (strOfNums (joinL [46] (dlF f (0 + 1))))) w := fun w => by
          rw [run_string_add_sum (P := Tryz.prog) w _ _ (by omega), EQ]
        obtain rfl : b = true := by rw [HGD.out]; rfl
        have EG := Lib.hid (show decide (m ≤ 255) = gdF f (0 + 1) by rw [GS.out]; rfl)
        clear k0 hb3
        go_wp2_with fail
        go_roundw
        case rel => exact ⟨1, _, decide (m ≤ 255), by omega, rfl, by simp; omega, rfl, by rw [← EQ, ByteArray.size_append]; have : (⟨#[]⟩ : ByteArray).size = 0 := rfl; omega, Lib.hid rfl, EG, Lib.hid (bthen HB.out B3.out)⟩
        case measure => simp [intOf]
      · obtain ⟨i', rfl⟩ : ∃ i', i = i' + 1 := ⟨i - 1, by omega⟩
        have q0 : decide ((0 : Int) < ((i' + 1 : Nat) : Int)) = true := by simp
        have q1 : (0 : Int) < ((i' + 1 : Nat) : Int) := by omega
        have k0 := KK.out
        generalize hI : i' + 1 = i at *
        have EQ : (d ++ (⟨#[46]⟩ : ByteArray)) ++ strOfNums (decL (m : Int)) = strOfNums (joinL [46] (dlF f (i + 1))) := by rw [JS.out, if_neg hi0, HD.out, show (⟨#[46]⟩ : ByteArray) = strOfNums [46] from rfl, str_app, str_app]
        have DS0 : ∀ w, (Op.stringOp .add d (⟨#[46]⟩ : ByteArray)).run Tryz.prog w = .ok (.string (d ++ (⟨#[46]⟩ : ByteArray))) w := fun w => by
          rw [run_string_add_sum (P := Tryz.prog) w _ _ (by show d.size + 1 ≤ _; omega)]
        have SZ : (d ++ (⟨#[46]⟩ : ByteArray)).size = d.size + 1 := by rw [ByteArray.size_append]; rfl
        go_wp2_with fail
        refine (SS.out _).mono ?_
        rintro _ w3 ⟨rfl, hb3⟩
        have B3 := Lib.hid hb3
        have DS : ∀ w, (Op.stringOp .add (d ++ (⟨#[46]⟩ : ByteArray)) (strOfNums (decL (m : Int)))).run Tryz.prog w = .ok (.string (strOfNums (joinL [46] (dlF f (i + 1))))) w := fun w => by
          rw [run_string_add_sum (P := Tryz.prog) w _ _ (by omega), EQ]
        have SZ2 : (strOfNums (joinL [46] (dlF f (i + 1)))).size ≤ 30 * (i + 1) := by rw [← EQ, ByteArray.size_append, SZ]; omega
        clear k0 hb3
        cases b with
        | false =>
          have EG := Lib.hid (show false = gdF f (i + 1) by rw [GS.out, ← HGD.out]; rfl)
          go_wp2_with fail
          go_roundw
          case rel => exact ⟨i + 1, _, false, by omega, rfl, rfl, by go_num, SZ2, Lib.hid rfl, EG, Lib.hid (bthen HB.out B3.out)⟩
          case measure => simp [intOf]; omega
        | true =>
          have EG := Lib.hid (show decide (m ≤ 255) = gdF f (i + 1) by rw [GS.out, ← HGD.out]; rfl)
          go_wp2_with fail
          go_roundw
          case rel => exact ⟨i + 1, _, decide (m ≤ 255), by omega, rfl, by simp; omega, by go_num, SZ2, Lib.hid rfl, EG, Lib.hid (bthen HB.out B3.out)⟩
          case measure => simp [intOf]; omega
    · obtain rfl : i = 4 := by omega
      have D4 : dlF f 4 = ([f 0 % 1000, f 1 % 1000, f 2 % 1000, f 3 % 1000].map fun n : Nat => decL (n : Int)) := rfl
      have FL := Lib.hid (four_law (f 0 % 1000) (f 1 % 1000) (f 2 % 1000) (f 3 % 1000))
      have GB : gdF f 4 = (((decide (f 0 % 1000 ≤ 255) && decide (f 1 % 1000 ≤ 255)) && decide (f 2 % 1000 ≤ 255)) && decide (f 3 % 1000 ≤ 255)) := by
        rw [gdF_succ, gdF_succ, gdF_succ, gdF_succ]; simp [gdF]
      rw [← D4, ← GB] at FL
      have DBY : By (joinL [46] (dlF f 4)) := joinL_by2 (by unfold By; decide) fun p hp => by
        rw [D4] at hp
        obtain ⟨n, _, rfl⟩ := List.mem_map.1 hp
        exact decL_by _
      have BD : byteL d = joinL [46] (dlF f 4) := by rw [HD.out, byteL_str DBY]
      have BW := Lib.hid (show Below w.heap.size w wr by rw [hg]; exact B0.out.trans (HB.out.mono (by rw [← hg]; exact B0.out.size)))
      have HO := Lib.hid (adhost_any d wr (by omega) (HG.out _ (hg ▸ BW.out)) (HP.out _ (hg ▸ BW.out)))
      rw [BD, FL.out] at HO
      rw [← HGD.out] at HO
      obtain ⟨hh, EH, EHD⟩ : ∃ hh : ByteArray, hostV (if b = true then some (joinL [46] (dlF f 4)) else none) = .tuple #[.string hh, .bool b] ∧ (b = true → hh = d) := by
        cases b with
        | true => exact ⟨d, by rw [if_pos rfl]; unfold hostV; rw [HD.out], fun _ => rfl⟩
        | false => exact ⟨⟨#[]⟩, by rw [if_neg (by decide)]; rfl, fun h => by cases h⟩
      rw [EH] at HO
      clear D4 GB DBY BD FL HD HGD SM DLn EH
      obtain ⟨K, gk, K8⟩ : ∃ K : Nat, gap % 8 = (K : Int) ∧ K < 8 := ⟨(gap % 8).toNat, by omega, by omega⟩
      have GK := Lib.hid gk
      clear gk
      have R2w := Lib.hid (fun i (h : i < 8) => R2.out.range i _ (eight_at e h))
      have R2L := Lib.hid R2.out.lt
      have HB_sz := Lib.hid HB.out.size
      have HB_c := Lib.hid (fun i => HB.out.cell (p := ⟨g2, i, none⟩) R2L.out)
      clear R1 R2 HB B0 hf
      go_wp2_with fail
      refine (HO.out).mono ?_
      rintro _ w4 ⟨rfl, hb4⟩
      have BB_lt := Lib.hid (show g2 < w4.heap.size from Nat.lt_of_lt_of_le R2L.out (Nat.le_trans HB_sz.out hb4.size))
      have BBw := Lib.hid (fun i => (hb4.cell (p := ⟨g2, i, none⟩) (Nat.lt_of_lt_of_le R2L.out HB_sz.out)).trans (HB_c.out i))
      have B4 := Lib.hid (bthen BW.out hb4)
      clear hb4 HO
      go_upto_region 11 with (fail)
      go_cut [66] (fun v wx => v = .bool false ∧ w4 = wx)
      case first =>
        cases b with
        | true =>
          obtain rfl := EHD rfl
          go_wp2_with fail
          go_meet
          exact ⟨rfl, rfl⟩
        | false =>
          go_wp2_with fail
          go_meet
          exact ⟨rfl, rfl⟩
      case rest =>
      obtain ⟨rfl, rfl⟩ := hcut
      clear EHD BW R2L HB_sz HB_c
      go_wp2_with fail
      rw [GK.out]
      go_loopw [15, 16, 17, 19, 20] (fun v15 v16 v17 v19 _ wq => ∃ (i : Nat) (x y z : ByteArray), i ≤ 8 ∧ v15 = .string x ∧ v16 = .string y ∧ v17 = .string z ∧ v19 = .int .i64 i ∧ Hid (H2R e K i x y z) ∧ Hid (Below w4.heap.size w4 wq)) (fun _ _ _ v _ _ => 8 - (intOf v).toNat)
      case atStart => exact ⟨0, _, _, _, Nat.zero_le _, rfl, rfl, rfl, rfl, Lib.hid (H2R.start e K), Lib.hid (Below.refl _ _)⟩
      case round =>
        obtain ⟨i, x, y, z, hi, rfl, rfl, rfl, rfl, HH, HQ⟩ := hrel
        by_cases hlt : i < 8
        · have hd : decide ((i : Int) < 8) = true := by simp; omega
          have k0 : wr.cell? ⟨g2, i, none⟩ = some (.int .u16 (e i)) := (HQ.out.cell (p := ⟨g2, i, none⟩) (BB_lt.out)).trans ((BBw.out i).trans (by have := R2w.out i hlt; rwa [Nat.zero_add] at this))
          have hei : e i < 65536 := he i
          have GA := Lib.hid (fun w' => group_any (e i) w' (he i))
          have ST := Lib.hid (H2R.step HH.out (he i))
          have s1 := HH.out.2.2.2.1
          have s2 := HH.out.2.2.2.2.1
          have s3 := HH.out.2.2.2.2.2
          have sg : (strOfNums (hexG (e i))).size ≤ 65537 := by rw [num_size]; have := hexG_size (e i); have := he i; omega
          generalize strOfNums (hexG (e i)) = g at *
          have C1 : (⟨#[58]⟩ : ByteArray).size = 1 := rfl
          rcases (show (i = 0 ∧ K = 0) ∨ (i = 0 ∧ 0 < K) ∨ (0 < i ∧ i < K) ∨ (0 < i ∧ i = K) ∨ (0 < i ∧ i = K + 1) ∨ (0 < i ∧ K + 1 < i) by omega) with ⟨hc, hk⟩ | ⟨hc, hk⟩ | ⟨hc, hk⟩ | ⟨hc, hk⟩ | ⟨hc, hk⟩ | ⟨hc, hk⟩
          · -- i = 0 ∧ K = 0
            have p0 : ¬ (0 : Int) < (i : Int) := by omega
            have p1 : ¬ (i : Int) < (K : Int) := by omega
            have p2 : ¬ (K : Int) + 1 < (i : Int) := by omega
            have p3 : ¬ (K : Int) < (i : Int) := by omega
            have Ax : ∀ w, (Op.stringOp .add x g).run Tryz.prog w = .ok (.string (x ++ g)) w := fun w => by rw [run_string_add_sum (P := Tryz.prog) w _ _ (by (try rw [ByteArray.size_append]); omega)]
            have ST2 := Lib.hid (show H2R e K (i + 1) (x ++ g) y z by
              have h := ST.out
              unfold addG at h
              rw [if_pos (show i = 0 by omega), if_neg (show ¬ i < K by omega), if_neg (show ¬ K < i by omega)] at h
              exact h)
            clear ST hc hk
            go_wp2_with fail
            refine (GA.out _).mono ?_
            rintro _ w5 ⟨rfl, hb5⟩
            have B5 := Lib.hid (bthen HQ.out hb5)
            clear hb5 k0
            go_wp2_with fail
            go_roundw
            case rel => exact ⟨i + 1, _, _, _, by omega, rfl, rfl, rfl, by go_num, ST2, B5⟩
            case measure => simp [intOf]; omega
          · -- i = 0 ∧ 0 < K
            have p0 : ¬ (0 : Int) < (i : Int) := by omega
            have p1 : (i : Int) < (K : Int) := by omega
            have p2 : ¬ (K : Int) + 1 < (i : Int) := by omega
            have p3 : ¬ (K : Int) < (i : Int) := by omega
            have Ax : ∀ w, (Op.stringOp .add x g).run Tryz.prog w = .ok (.string (x ++ g)) w := fun w => by rw [run_string_add_sum (P := Tryz.prog) w _ _ (by (try rw [ByteArray.size_append]); omega)]
            have Ay : ∀ w, (Op.stringOp .add y g).run Tryz.prog w = .ok (.string (y ++ g)) w := fun w => by rw [run_string_add_sum (P := Tryz.prog) w _ _ (by (try rw [ByteArray.size_append]); omega)]
            have ST2 := Lib.hid (show H2R e K (i + 1) (x ++ g) (y ++ g) z by
              have h := ST.out
              unfold addG at h
              rw [if_pos (show i = 0 by omega), if_pos (show i < K by omega), if_neg (show ¬ K < i by omega)] at h
              rw [if_pos (show i = 0 by omega)] at h
              exact h)
            clear ST hc hk
            go_wp2_with fail
            refine (GA.out _).mono ?_
            rintro _ w5 ⟨rfl, hb5⟩
            have B5 := Lib.hid (bthen HQ.out hb5)
            clear hb5 k0
            go_wp2_with fail
            go_roundw
            case rel => exact ⟨i + 1, _, _, _, by omega, rfl, rfl, rfl, by go_num, ST2, B5⟩
            case measure => simp [intOf]; omega
          · -- 0 < i ∧ i < K
            have p0 : (0 : Int) < (i : Int) := by omega
            have p1 : (i : Int) < (K : Int) := by omega
            have p2 : ¬ (K : Int) + 1 < (i : Int) := by omega
            have p3 : ¬ (K : Int) < (i : Int) := by omega
            have Cx : ∀ w, (Op.stringOp .add x (⟨#[58]⟩ : ByteArray)).run Tryz.prog w = .ok (.string (x ++ (⟨#[58]⟩ : ByteArray))) w := fun w => by rw [run_string_add_sum (P := Tryz.prog) w _ _ (by (try rw [ByteArray.size_append]); omega)]
            have Ax : ∀ w, (Op.stringOp .add (x ++ (⟨#[58]⟩ : ByteArray)) g).run Tryz.prog w = .ok (.string ((x ++ (⟨#[58]⟩ : ByteArray)) ++ g)) w := fun w => by rw [run_string_add_sum (P := Tryz.prog) w _ _ (by (try rw [ByteArray.size_append]); omega)]
            have Cy : ∀ w, (Op.stringOp .add y (⟨#[58]⟩ : ByteArray)).run Tryz.prog w = .ok (.string (y ++ (⟨#[58]⟩ : ByteArray))) w := fun w => by rw [run_string_add_sum (P := Tryz.prog) w _ _ (by (try rw [ByteArray.size_append]); omega)]
            have Ay : ∀ w, (Op.stringOp .add (y ++ (⟨#[58]⟩ : ByteArray)) g).run Tryz.prog w = .ok (.string ((y ++ (⟨#[58]⟩ : ByteArray)) ++ g)) w := fun w => by rw [run_string_add_sum (P := Tryz.prog) w _ _ (by (try rw [ByteArray.size_append]); omega)]
            have ST2 := Lib.hid (show H2R e K (i + 1) ((x ++ (⟨#[58]⟩ : ByteArray)) ++ g) ((y ++ (⟨#[58]⟩ : ByteArray)) ++ g) z by
              have h := ST.out
              unfold addG at h
              rw [if_neg (show ¬ i = 0 by omega), if_pos (show i < K by omega), if_neg (show ¬ K < i by omega)] at h
              rw [if_neg (show ¬ i = 0 by omega)] at h
              exact h)
            clear ST hc hk
            go_wp2_with fail
            refine (GA.out _).mono ?_
            rintro _ w5 ⟨rfl, hb5⟩
            have B5 := Lib.hid (bthen HQ.out hb5)
            clear hb5 k0
            go_wp2_with fail
            go_roundw
            case rel => exact ⟨i + 1, _, _, _, by omega, rfl, rfl, rfl, by go_num, ST2, B5⟩
            case measure => simp [intOf]; omega
          · -- 0 < i ∧ i = K
            have p0 : (0 : Int) < (i : Int) := by omega
            have p1 : ¬ (i : Int) < (K : Int) := by omega
            have p2 : ¬ (K : Int) + 1 < (i : Int) := by omega
            have p3 : ¬ (K : Int) < (i : Int) := by omega
            have Cx : ∀ w, (Op.stringOp .add x (⟨#[58]⟩ : ByteArray)).run Tryz.prog w = .ok (.string (x ++ (⟨#[58]⟩ : ByteArray))) w := fun w => by rw [run_string_add_sum (P := Tryz.prog) w _ _ (by (try rw [ByteArray.size_append]); omega)]
            have Ax : ∀ w, (Op.stringOp .add (x ++ (⟨#[58]⟩ : ByteArray)) g).run Tryz.prog w = .ok (.string ((x ++ (⟨#[58]⟩ : ByteArray)) ++ g)) w := fun w => by rw [run_string_add_sum (P := Tryz.prog) w _ _ (by (try rw [ByteArray.size_append]); omega)]
            have ST2 := Lib.hid (show H2R e K (i + 1) ((x ++ (⟨#[58]⟩ : ByteArray)) ++ g) y z by
              have h := ST.out
              unfold addG at h
              rw [if_neg (show ¬ i = 0 by omega), if_neg (show ¬ i < K by omega), if_neg (show ¬ K < i by omega)] at h
              exact h)
            clear ST hc hk
            go_wp2_with fail
            refine (GA.out _).mono ?_
            rintro _ w5 ⟨rfl, hb5⟩
            have B5 := Lib.hid (bthen HQ.out hb5)
            clear hb5 k0
            go_wp2_with fail
            go_roundw
            case rel => exact ⟨i + 1, _, _, _, by omega, rfl, rfl, rfl, by go_num, ST2, B5⟩
            case measure => simp [intOf]; omega
          · -- 0 < i ∧ i = K + 1
            have p0 : (0 : Int) < (i : Int) := by omega
            have p1 : ¬ (i : Int) < (K : Int) := by omega
            have p2 : ¬ (K : Int) + 1 < (i : Int) := by omega
            have p3 : (K : Int) < (i : Int) := by omega
            have Cx : ∀ w, (Op.stringOp .add x (⟨#[58]⟩ : ByteArray)).run Tryz.prog w = .ok (.string (x ++ (⟨#[58]⟩ : ByteArray))) w := fun w => by rw [run_string_add_sum (P := Tryz.prog) w _ _ (by (try rw [ByteArray.size_append]); omega)]
            have Ax : ∀ w, (Op.stringOp .add (x ++ (⟨#[58]⟩ : ByteArray)) g).run Tryz.prog w = .ok (.string ((x ++ (⟨#[58]⟩ : ByteArray)) ++ g)) w := fun w => by rw [run_string_add_sum (P := Tryz.prog) w _ _ (by (try rw [ByteArray.size_append]); omega)]
            have Az : ∀ w, (Op.stringOp .add z g).run Tryz.prog w = .ok (.string (z ++ g)) w := fun w => by rw [run_string_add_sum (P := Tryz.prog) w _ _ (by (try rw [ByteArray.size_append]); omega)]
            have ST2 := Lib.hid (show H2R e K (i + 1) ((x ++ (⟨#[58]⟩ : ByteArray)) ++ g) y (z ++ g) by
              have h := ST.out
              unfold addG at h
              rw [if_neg (show ¬ i = 0 by omega), if_neg (show ¬ i < K by omega), if_pos (show K < i by omega)] at h
              rw [if_pos (show i - (K + 1) = 0 by omega)] at h
              exact h)
            clear ST hc hk
            go_wp2_with fail
            refine (GA.out _).mono ?_
            rintro _ w5 ⟨rfl, hb5⟩
            have B5 := Lib.hid (bthen HQ.out hb5)
            clear hb5 k0
            go_wp2_with fail
            go_roundw
            case rel => exact ⟨i + 1, _, _, _, by omega, rfl, rfl, rfl, by go_num, ST2, B5⟩
            case measure => simp [intOf]; omega
          · -- 0 < i ∧ K + 1 < i
            have p0 : (0 : Int) < (i : Int) := by omega
            have p1 : ¬ (i : Int) < (K : Int) := by omega
            have p2 : (K : Int) + 1 < (i : Int) := by omega
            have p3 : (K : Int) < (i : Int) := by omega
            have Cx : ∀ w, (Op.stringOp .add x (⟨#[58]⟩ : ByteArray)).run Tryz.prog w = .ok (.string (x ++ (⟨#[58]⟩ : ByteArray))) w := fun w => by rw [run_string_add_sum (P := Tryz.prog) w _ _ (by (try rw [ByteArray.size_append]); omega)]
            have Ax : ∀ w, (Op.stringOp .add (x ++ (⟨#[58]⟩ : ByteArray)) g).run Tryz.prog w = .ok (.string ((x ++ (⟨#[58]⟩ : ByteArray)) ++ g)) w := fun w => by rw [run_string_add_sum (P := Tryz.prog) w _ _ (by (try rw [ByteArray.size_append]); omega)]
            have Cz : ∀ w, (Op.stringOp .add z (⟨#[58]⟩ : ByteArray)).run Tryz.prog w = .ok (.string (z ++ (⟨#[58]⟩ : ByteArray))) w := fun w => by rw [run_string_add_sum (P := Tryz.prog) w _ _ (by (try rw [ByteArray.size_append]); omega)]
            have Az : ∀ w, (Op.stringOp .add (z ++ (⟨#[58]⟩ : ByteArray)) g).run Tryz.prog w = .ok (.string ((z ++ (⟨#[58]⟩ : ByteArray)) ++ g)) w := fun w => by rw [run_string_add_sum (P := Tryz.prog) w _ _ (by (try rw [ByteArray.size_append]); omega)]
            have ST2 := Lib.hid (show H2R e K (i + 1) ((x ++ (⟨#[58]⟩ : ByteArray)) ++ g) y ((z ++ (⟨#[58]⟩ : ByteArray)) ++ g) by
              have h := ST.out
              unfold addG at h
              rw [if_neg (show ¬ i = 0 by omega), if_neg (show ¬ i < K by omega), if_pos (show K < i by omega)] at h
              rw [if_neg (show ¬ i - (K + 1) = 0 by omega)] at h
              exact h)
            clear ST hc hk
            go_wp2_with fail
            refine (GA.out _).mono ?_
            rintro _ w5 ⟨rfl, hb5⟩
            have B5 := Lib.hid (bthen HQ.out hb5)
            clear hb5 k0
            go_wp2_with fail
            go_roundw
            case rel => exact ⟨i + 1, _, _, _, by omega, rfl, rfl, rfl, by go_num, ST2, B5⟩
            case measure => simp [intOf]; omega
        · obtain rfl : i = 8 := by omega
          obtain ⟨h1, h2, h3, h4, h5, h6⟩ := HH.out
          rw [show min 8 K = K by omega] at h2
          rw [show 8 - (K + 1) = 7 - K by omega] at h3
          have T1 := Lib.hid (eight_host e he h1)
          have T2 := Lib.hid (gap_host e he K8 h2 h3)
          have B5 := Lib.hid (bthen B4.out HQ.out)
          clear h1 h2 h3 HH hlt hi HQ B4 BBw BB_lt R2w
          have Z91 : (⟨#[91]⟩ : ByteArray).size = 1 := rfl
          have Z93 : (⟨#[93]⟩ : ByteArray).size = 1 := rfl
          have Z58 : (⟨#[58, 58]⟩ : ByteArray).size = 2 := rfl
          obtain ⟨p1, hp1⟩ : ∃ t, (⟨#[91]⟩ : ByteArray) ++ x = t := ⟨_, rfl⟩
          rw [hp1] at T1
          obtain ⟨t1, ht1⟩ : ∃ t, p1 ++ (⟨#[93]⟩ : ByteArray) = t := ⟨_, rfl⟩
          rw [ht1] at T1
          obtain ⟨q1, hq1⟩ : ∃ t, (⟨#[91]⟩ : ByteArray) ++ y = t := ⟨_, rfl⟩
          rw [hq1] at T2
          obtain ⟨q2, hq2⟩ : ∃ t, q1 ++ (⟨#[58, 58]⟩ : ByteArray) = t := ⟨_, rfl⟩
          rw [hq2] at T2
          obtain ⟨q3, hq3⟩ : ∃ t, q2 ++ z = t := ⟨_, rfl⟩
          rw [hq3] at T2
          obtain ⟨t2, ht2⟩ : ∃ t, q3 ++ (⟨#[93]⟩ : ByteArray) = t := ⟨_, rfl⟩
          rw [ht2] at T2
          have zp1 : p1.size = x.size + 1 := by rw [← hp1, ByteArray.size_append]; omega
          have zt1 : t1.size = x.size + 2 := by rw [← ht1, ByteArray.size_append]; omega
          have zq1 : q1.size = y.size + 1 := by rw [← hq1, ByteArray.size_append]; omega
          have zq2 : q2.size = y.size + 3 := by rw [← hq2, ByteArray.size_append]; omega
          have zq3 : q3.size = y.size + z.size + 3 := by rw [← hq3, ByteArray.size_append]; omega
          have zt2 : t2.size = y.size + z.size + 4 := by rw [← ht2, ByteArray.size_append]; omega
          have a1 : ∀ w, (Op.stringOp .add (⟨#[91]⟩ : ByteArray) x).run Tryz.prog w = .ok (.string p1) w := fun w => by rw [run_string_add_sum (P := Tryz.prog) w _ _ (by omega), hp1]
          have a2 : ∀ w, (Op.stringOp .add p1 (⟨#[93]⟩ : ByteArray)).run Tryz.prog w = .ok (.string t1) w := fun w => by rw [run_string_add_sum (P := Tryz.prog) w _ _ (by omega), ht1]
          have a3 : ∀ w, (Op.stringOp .add (⟨#[91]⟩ : ByteArray) y).run Tryz.prog w = .ok (.string q1) w := fun w => by rw [run_string_add_sum (P := Tryz.prog) w _ _ (by omega), hq1]
          have a4 : ∀ w, (Op.stringOp .add q1 (⟨#[58, 58]⟩ : ByteArray)).run Tryz.prog w = .ok (.string q2) w := fun w => by rw [run_string_add_sum (P := Tryz.prog) w _ _ (by omega), hq2]
          have a5 : ∀ w, (Op.stringOp .add q2 z).run Tryz.prog w = .ok (.string q3) w := fun w => by rw [run_string_add_sum (P := Tryz.prog) w _ _ (by omega), hq3]
          have a6 : ∀ w, (Op.stringOp .add q3 (⟨#[93]⟩ : ByteArray)).run Tryz.prog w = .ok (.string t2) w := fun w => by rw [run_string_add_sum (P := Tryz.prog) w _ _ (by omega), ht2]
          have O1 := Lib.hid (fun w' (h : Below w.heap.size w w') => adhost_any t1 w' (by omega) (HG.out _ (hg ▸ h)) (HP.out _ (hg ▸ h)))
          have O2 := Lib.hid (fun w' (h : Below w.heap.size w w') => adhost_any t2 w' (by omega) (HG.out _ (hg ▸ h)) (HP.out _ (hg ▸ h)))
          rw [T1.out] at O1
          rw [T2.out] at O2
          clear hp1 ht1 hq1 hq2 hq3 ht2 zp1 zt1 zq1 zq2 zq3 zt2 h4 h5 h6 T1 T2
          go_wp2_with fail
          refine (O1.out _ B5.out).mono ?_
          rintro _ w6 ⟨rfl, hb6⟩
          have B6 := Lib.hid (bthen B5.out hb6)
          clear hb6
          go_wp2_with fail
          refine (O2.out _ B6.out).mono ?_
          rintro _ w7 ⟨rfl, hb7⟩
          have B7 := Lib.hid (bthen B6.out hb7)
          clear hb7
          go_wp2_with fail
          clear a1 a2 a3 a4 a5 a6 O1 O2 B5 B6
          obtain ⟨q, sq, sq8⟩ : ∃ q : Nat, sz % 8 = (q : Int) ∧ q < 8 := ⟨(sz % 8).toNat, by omega, by omega⟩
          go_loopw [25, 26] (fun v25 v26 wq => ∃ i : Nat, i ≤ 60 + q ∧ v25 = .string (strOfNums (List.replicate i 97)) ∧ v26 = .int .i64 i ∧ w7 = wq) (fun _ v _ => 60 + q - (intOf v).toNat)
          case atStart => exact ⟨0, Nat.zero_le _, rfl, rfl, rfl⟩
          case round =>
            obtain ⟨i, hi, rfl, rfl, rfl⟩ := hrel
            have RZ : (strOfNums (List.replicate i 97)).size = i := by rw [num_size, List.length_replicate]
            by_cases hlt : i < 60 + q
            · have hd : decide ((i : Int) < 60 + (q : Int)) = true := by simp; omega
              have A1 : ∀ w, (Op.stringOp .add (strOfNums (List.replicate i 97)) (⟨#[97]⟩ : ByteArray)).run Tryz.prog w = .ok (.string (strOfNums (List.replicate (i + 1) 97))) w := fun w => by
                rw [run_string_add_sum (P := Tryz.prog) w _ _ (by rw [RZ]; show i + 1 ≤ _; omega), show (⟨#[97]⟩ : ByteArray) = strOfNums [97] from rfl, str_app, ← List.replicate_succ']
              clear RZ
              go_wp2_with fail
              go_roundw
              case rel => exact ⟨i + 1, by omega, rfl, by go_num, by first | rfl | trivial⟩
              case measure => simp [intOf]; omega
            · obtain ⟨N, hN⟩ : ∃ N, 60 + q = N := ⟨_, rfl⟩
              obtain rfl : i = N := by omega
              have hd : decide ((i : Int) < 60 + (q : Int)) = false := by simp; omega
              have LL := label_law (n := i) (by omega) (by omega)
              have A2 : ∀ w, (Op.stringOp .add (⟨#[88, 46]⟩ : ByteArray) (strOfNums (List.replicate i 97))).run Tryz.prog w = .ok (.string (strOfNums ([88, 46] ++ List.replicate i 97))) w := fun w => by
                rw [run_string_add_sum (P := Tryz.prog) w _ _ (by rw [RZ]; show 2 + i ≤ _; omega), show (⟨#[88, 46]⟩ : ByteArray) = strOfNums [88, 46] from rfl, str_app]
              have A3 : ∀ w, (Op.stringOp .add (⟨#[120, 46]⟩ : ByteArray) (strOfNums (List.replicate i 97))).run Tryz.prog w = .ok (.string (strOfNums ([120, 46] ++ List.replicate i 97))) w := fun w => by
                rw [run_string_add_sum (P := Tryz.prog) w _ _ (by rw [RZ]; show 2 + i ≤ _; omega), show (⟨#[120, 46]⟩ : ByteArray) = strOfNums [120, 46] from rfl, str_app]
              have BY3 : By ([88, 46] ++ List.replicate i 97) := fun c hc => by
                rcases List.mem_append.1 hc with hc | hc
                · simp at hc; omega
                · have := List.eq_of_mem_replicate hc; omega
              have O3 := Lib.hid (fun w' (h : Below w.heap.size w w') => adhost_any (strOfNums ([88, 46] ++ List.replicate i 97)) w' (by rw [num_size, List.length_append, List.length_replicate]; simp; omega) (HG.out _ (hg ▸ h)) (HP.out _ (hg ▸ h)))
              rw [byteL_str BY3, LL] at O3
              have AWK := Lib.hid (fun w' (h : Below w.heap.size w w') => awake_any w' (HC.out _ (hg ▸ h)) (HG.out _ (hg ▸ h)) (HP.out _ (hg ▸ h)))
              clear LL BY3 hN hlt hi sq8 HC HG HP
              generalize strOfNums ([88, 46] ++ List.replicate i 97) = tx at *
              by_cases h63 : i ≤ 63
              · rw [if_pos h63] at O3
                rw [show hostV (some ([120, 46] ++ List.replicate i 97)) = .tuple #[.string (strOfNums ([120, 46] ++ List.replicate i 97)), .bool true] from rfl] at O3
                have d63 : decide ((i : Int) ≤ 63) = true := by simp; omega
                have d63' : decide (((strOfNums (List.replicate i 97)).size : Int) ≤ 63) = true := by rw [RZ]; exact d63
                generalize strOfNums ([120, 46] ++ List.replicate i 97) = ty at *
                generalize strOfNums (List.replicate i 97) = tl at *
                go_wp2_with fail
                refine (O3.out _ B7.out).mono ?_
                rintro _ w8 ⟨rfl, hb8⟩
                have B8 := Lib.hid (bthen B7.out hb8)
                clear hb8
                go_wp2_with fail
                refine (AWK.out _ B8.out).mono ?_
                rintro _ w9 ⟨rfl, hb9⟩
                have B9 := Lib.hid (bthen B8.out hb9)
                go_wp2_with fail
                go_ret
                exact ⟨rfl, hg ▸ B9.out⟩
              · rw [if_neg h63] at O3
                rw [show hostV none = .tuple #[.string ⟨#[]⟩, .bool false] from rfl] at O3
                have d63 : decide ((i : Int) ≤ 63) = false := by simp; omega
                have d63' : decide (((strOfNums (List.replicate i 97)).size : Int) ≤ 63) = false := by rw [RZ]; exact d63
                generalize strOfNums (List.replicate i 97) = tl at *
                go_wp2_with fail
                refine (O3.out _ B7.out).mono ?_
                rintro _ w8 ⟨rfl, hb8⟩
                have B8 := Lib.hid (bthen B7.out hb8)
                clear hb8
                go_wp2_with fail
                refine (AWK.out _ B8.out).mono ?_
                rintro _ w9 ⟨rfl, hb9⟩
                have B9 := Lib.hid (bthen B8.out hb9)
                go_wp2_with fail
                go_ret
                exact ⟨rfl, hg ▸ B9.out⟩
end Go.Proofs.YthfonniieaiocaaGreatDoor
namespace Go.Proofs.YthfonniieaiocaaGreatDoor
open Go.ChangeShapes Go.WideShapes Go.ChangeAt Go.RowKit

section
variable {H : Type} {enc : TypeId × Value → H} {W : World} {b0 : Nat} {v : Value} {d : DataW H} {p : List MemPlace}
theorem okWide_arr {P : Program} {r : Reach} {base n : Nat} {t e : TypeId} (ht : P.underlying t = some (.array n e)) (h : Value.okWide P W r base t v) : ∃ cs, v = .agg cs ∧ cs.size = P.cellsOf t := by
  simp only [Value.okWide, ht] at h
  obtain ⟨cs, h1, h2, _⟩ := h
  exact ⟨cs, h1, h2⟩
theorem cU16 : Tryz.prog.cellsOf 46 = 1 := by kernel_rfl
set_option linter.constructorNameAsVariable false
set_option maxRecDepth 100000 in
/-- An array of uint16, by its letters. -/
theorem arr_open {n : Nat} {t : TypeId} (ht : Tryz.prog.underlying t = some (.array n 46)) (hc : Tryz.prog.cellsOf t = n) (hv : Value.okWide Tryz.prog W .any b0 t v) (h : DataW.Trod enc Tryz.prog W 0 (fun _ => true) true t v d p) :
    ∃ f : Nat → Nat, v = .agg ((List.range n).map fun i => Value.int .u16 (f i)).toArray ∧ ∀ i, f i < 65536 := by
  obtain ⟨cs, rfl, hsz⟩ := okWide_arr ht hv
  rw [hc] at hsz
  obtain ⟨fuel, hf⟩ := h
  obtain ⟨xs, m, _, _, _, hxl, hel⟩ := DataW.trod_array ht hf
  rw [cU16] at hel
  have key : ∀ i, i < n → ∃ k : Nat, k < 65536 ∧ cs[i]? = some (.int .u16 k) := fun i hi => by
    have h1 := hel i hi
    have h2 : xs[i]? = some (xs[i]'(by omega)) := List.getElem?_eq_getElem (by omega)
    rw [h2, Nat.mul_one] at h1
    have hil : i < cs.toList.length := by simpa [hsz] using hi
    have h3 : (cs.toList.drop i).take 1 = [cs.toList[i]'hil] := by
      rw [List.drop_eq_getElem_cons hil]; rfl
    have h1' : DataW.trod enc Tryz.prog W 0 (fun _ => true) true m 46 ((cs.toList.drop i).take 1) = some (xs[i]'(by omega)) := h1
    rw [h3] at h1'
    obtain ⟨z, hz, _, hw⟩ := DataW.trod_int Tryz.underlying46 h1'
    have hz2 : cs.toList[i]'hil = .int .u16 z := by simpa using hz
    have hb : 0 ≤ z ∧ z ≤ 65535 := by
      simp [Lit.wf, IntKind.min, IntKind.max, IntKind.signed, IntKind.bits] at hw
      omega
    refine ⟨z.toNat, by omega, ?_⟩
    rw [show ((z.toNat : Nat) : Int) = z by omega]
    have : cs[i]? = some (cs[i]'(by omega)) := Array.getElem?_eq_getElem (by omega)
    rw [this]
    congr 1
  refine ⟨fun i => if h : i < n then (key i h).choose else 0, ?_, fun i => ?_⟩
  · congr 1
    apply Array.toList_inj.1
    apply List.ext_getElem?
    intro i
    by_cases hi : i < n
    · have := (key i hi).choose_spec.2
      rw [Array.getElem?_toList, this, List.getElem?_map, List.getElem?_range hi]
      simp [hi]
    · rw [List.getElem?_eq_none (by simp; omega), List.getElem?_eq_none (by simp; omega)]
  · dsimp only
    split
    · rename_i h; exact (key i h).choose_spec.1
    · decide
end
end Go.Proofs.YthfonniieaiocaaGreatDoor
