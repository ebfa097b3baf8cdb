/- Contracts: address's control, clean, inClass, escapeAt. And what stands behind it. -/
import Derived.Test.YthfonniieaiocaaGreatDoorBm
import Derived.Test.YthfonniieaiocaaGreatDoorAd
import Derived.Deep.AppendLies
import Derived.Test.YthfonniieaiocaaGreatDoorCc
import Derived.Test.YthfonniieaiocaaGreatDoorBd
import Derived.Lib.MinMax
import Derived.BigQuiet
import Derived.Deep.QuietTactic
import Derived.IntWalk
set_option linter.unusedVariables false
set_option linter.unusedSimpArgs false
set_option maxRecDepth 100000
set_option maxHeartbeats 2000000
namespace Go.Proofs.YthfonniieaiocaaGreatDoor
open Go.RowKit

theorem adctl_any (c : Int) (w : World) : Calls Tryz.prog 152 #[.int .u8 c] w fun e w' => e = .returned (.bool (isCtl c)) ∧ w = w' := by
  unfold isCtl
  by_cases h2 : c < 32
  · have d2 : decide (c < 32) = true := by simp [h2]
    by_cases hc : c = 9
    · subst hc
      go_enter Tryz.func152, Tryz.ntmps152
      go_wp2
      go_ret
      exact ⟨rfl, rfl⟩
    · have e1 : (c == 9) = false := by simp [hc]
      go_enter Tryz.func152, Tryz.ntmps152
      go_wp2
      go_ret
      exact ⟨ret_bool (by rw [d2, e1]; rfl), rfl⟩
  · have d2 : decide (c < 32) = false := by simp [h2]
    go_enter Tryz.func152, Tryz.ntmps152
    go_wp2
    go_ret
    exact ⟨ret_bool (by first | rfl | (rw [d2]; rfl)), rfl⟩
theorem adclean_any (s : ByteArray) (w : World) (hs : s.size ≤ 4000000) : Calls Tryz.prog 97 #[.string s] w fun e w' => e = .returned (.bool (clean (byteL s))) ∧ w = w' := by
  have HL := kd (byteL_len s)
  have CN := kd (fun k h1 h2 => clean_no (xs := byteL s) (k := k) h1 h2)
  have CA := kd (fun h => clean_all (xs := byteL s) h)
  generalize clean (byteL s) = R at *
  obtain ⟨X, hX⟩ : ∃ X, byteL s = X := ⟨_, rfl⟩
  have HX := kd hX
  rw [hX] at HL CN CA
  clear hX
  go_enter Tryz.func97, Tryz.ntmps97
  go_wp2_with fail
  go_loopw [6] (fun v wr => ∃ k : Nat, k ≤ s.size ∧ v = .int .i64 k ∧ Hid (∀ j, j < k → isCtl (X.getD j 0) = false) ∧ w = wr) (fun v _ => s.size - (intOf v).toNat)
  case atStart => exact ⟨0, Nat.zero_le _, rfl, kd (fun j hj => absurd hj (by omega)), rfl⟩
  case round =>
    obtain ⟨k, hk, rfl, H, rfl⟩ := hrel
    by_cases hlt : k < s.size
    · have hd : decide ((k : Int) < (s.size : Int)) = true := by simp; omega
      have d1 := fun w => idx_str s (i := k) hlt (z := (k : Int)) rfl w
      rw [HX.out] at d1
      have B := kd (CN.out k (by rw [HL.out]; exact hlt))
      have NX := kd (show isCtl (X.getD k 0) = false → ∀ j, j < k + 1 → isCtl (X.getD j 0) = false from fun h j hj => by
        rcases (show j < k ∨ j = k by omega) with h1 | rfl
        · exact H.out j h1
        · exact h)
      generalize X.getD k 0 = c at *
      have CT := kd (adctl_any c w)
      cases hp : isCtl c with
      | true =>
        rw [hp] at CT
        have E := kd (B.out hp)
        clear hp
        go_wp2_with (go_at_call 152; refine CT.out.mono ?_; rintro e w' ⟨rfl, rfl⟩)
        go_ret
        exact ⟨ret_bool E.out.symm, rfl⟩
      | false =>
        rw [hp] at CT
        have E := kd (NX.out hp)
        clear hp
        go_wp2_with (go_at_call 152; refine CT.out.mono ?_; rintro e w' ⟨rfl, rfl⟩)
        go_roundw
        case rel => exact ⟨k + 1, by omega, by go_num, E, by first | rfl | trivial⟩
        case measure => simp [intOf]; omega
    · obtain rfl : k = s.size := by omega
      have E := kd (CA.out (fun j hj => H.out j (by rw [HL.out] at hj; exact hj)))
      go_wp2_with fail
      go_ret
      exact ⟨ret_bool E.out.symm, rfl⟩
theorem idx_mem (c : UInt8) : ∀ l : List UInt8, 0 ≤ Lib.indexByte l c ↔ c ∈ l
  | [] => by simp [Lib.indexByte]
  | b :: l => by
    have ih := idx_mem c l
    have hge : -1 ≤ Lib.indexByte l c := by rw [indexByte_bl]; split <;> omega
    rw [Lib.indexByte]
    by_cases h : b = c
    · subst h
      rw [if_pos (by simp)]
      simp
    · rw [if_neg (by simpa using h), List.mem_cons, ← ih]
      have hc : ¬ c = b := fun e => h e.symm
      by_cases h2 : Lib.indexByte l c = -1
      · rw [h2]; simp [hc]
      · rw [if_neg (by simpa using h2)]
        constructor
        · intro _; right; omega
        · rintro (h3 | h3)
          · exact absurd h3 hc
          · omega
theorem contains_index (s : ByteArray) (c : UInt8) : decide ((0 : Int) ≤ Lib.indexByte s.data.toList c) = (byteL s).contains (c.toNat : Int) := by
  rw [Bool.eq_iff_iff, decide_eq_true_eq, List.contains_iff_mem, idx_mem]
  unfold byteL
  rw [List.mem_map]
  constructor
  · intro h; exact ⟨c, h, rfl⟩
  · rintro ⟨x, hx, e⟩
    have : x = c := UInt8.toNat_inj.1 (by omega)
    rw [← this]; exact hx
def CLSV : List Value := [.string ⟨#[38, 61, 43, 36, 44, 59, 63, 47]⟩, .string ⟨#[91, 93, 47, 58, 38, 43, 36]⟩, .string ⟨#[91, 93, 47, 63, 58, 43, 36]⟩]
def CLS (w : World) : Prop := 0 < w.heap.size ∧ w.rangeAt 0 0 CLSV
theorem CLS.below {w w1 : World} (h : CLS w) (hb : Below w.heap.size w w1) : CLS w1 := ⟨Nat.lt_of_lt_of_le h.1 hb.size, fun j v hv => (hb.cell (p := ⟨0, 0 + j, none⟩) h.1).trans (h.2 j v hv)⟩
theorem CLS.at {w : World} (h : CLS w) {k : Int} (h0 : 0 ≤ k) (h2 : k ≤ 2) : ∃ t : ByteArray, w.cell? ⟨0, k.toNat, none⟩ = some (.string t) ∧ byteL t = clsL k := by
  obtain ⟨n, rfl⟩ := Int.eq_ofNat_of_zero_le h0
  rcases (show n = 0 ∨ n = 1 ∨ n = 2 by omega) with rfl | rfl | rfl
  · exact ⟨_, h.2 0 _ rfl, by decide⟩
  · exact ⟨_, h.2 1 _ rfl, by decide⟩
  · exact ⟨_, h.2 2 _ rfl, by decide⟩
theorem u8_of {c : Int} (h0 : 0 ≤ c) (h1 : c < 256) : ∃ u : UInt8, (u.toNat : Int) = c ∧ c.toNat.toUInt8 = u := ⟨c.toNat.toUInt8, by
  rw [show (c.toNat.toUInt8).toNat = c.toNat % 256 from rfl]; omega, rfl⟩
theorem idxB_any (s : ByteArray) (c : Int) (w : World) (h0 : 0 ≤ c) (h1 : c < 256) : Calls Tryz.prog 66 #[.string s, .int .u8 c] w fun e w' => ∃ z : Int, e = .returned (.int .i64 z) ∧ decide (0 ≤ z) = (byteL s).contains c ∧ w = w' := by
  obtain ⟨u, h2, h3⟩ := u8_of h0 h1
  refine (Tryz.strings_IndexByte s c w).mono fun e w' ⟨he, hw⟩ => ⟨_, he, ?_, hw.symm⟩
  rw [h3, contains_index, h2]
theorem inclass_any (c k : Int) (w : World) (h0 : 0 ≤ c) (h1 : c < 256) (hC : CLS w) : Calls Tryz.prog 54 #[.int .u8 c, .int .i64 k] w fun e w' => e = .returned (.bool (inC k c)) ∧ Below w.heap.size w w' := by
  have E := kd (show inC k c = ((isLet c || (isDig c || MARKS.contains c)) || (clsL k).contains c) from rfl)
  have HL := kd (fun w => adletter_any c w)
  have HD := kd (fun w => addigit_any c w)
  have HM := kd (fun w => idxB_any ⟨#[45, 95, 46, 33, 126, 42, 39, 40, 41]⟩ c w h0 h1)
  rw [show byteL ⟨#[45, 95, 46, 33, 126, 42, 39, 40, 41]⟩ = MARKS by decide] at HM
  have HK := kd (fun (h : 0 ≤ k) (h2 : k ≤ 2) => hC.at h h2)
  have NK := kd (fun (h : ¬ (0 ≤ k ∧ k ≤ 2)) => show clsL k = [] by unfold clsL; rw [if_neg (by omega), if_neg (by omega), if_neg (by omega)])
  have HI := kd (fun s w => idxB_any s c w h0 h1)
  generalize inC k c = R at *
  generalize isLet c = b1 at *
  generalize isDig c = b2 at *
  generalize MARKS.contains c = b3 at *
  clear h0 h1 hC
  cases b1
  case true =>
    have E2 := kd (show R = true from E.out)
    go_enter Tryz.func54, Tryz.ntmps54
    go_wp2_with (go_at_call 120; refine (HL.out _).mono ?_; rintro e w' ⟨rfl, rfl⟩)
    go_ret
    exact ⟨ret_bool E2.out.symm, Below.refl _ _⟩
  cases b2
  case true =>
    have E2 := kd (show R = true from E.out)
    go_enter Tryz.func54, Tryz.ntmps54
    go_wp2_with (first | (go_at_call 120; refine (HL.out _).mono ?_; rintro e w' ⟨rfl, rfl⟩) | (go_at_call 121; refine (HD.out _).mono ?_; rintro e w' ⟨rfl, rfl⟩))
    go_ret
    exact ⟨ret_bool E2.out.symm, Below.refl _ _⟩
  cases b3
  case true =>
    have E2 := kd (show R = true from E.out)
    go_enter Tryz.func54, Tryz.ntmps54
    go_wp2_with (first | (go_at_call 120; refine (HL.out _).mono ?_; rintro e w' ⟨rfl, rfl⟩) | (go_at_call 121; refine (HD.out _).mono ?_; rintro e w' ⟨rfl, rfl⟩) | (go_at_call 66; refine (HM.out _).mono ?_; rintro e w' ⟨z, rfl, hz, rfl⟩))
    go_ret
    exact ⟨ret_bool E2.out.symm, Below.refl _ _⟩
  have E2 := kd (show R = (clsL k).contains c from E.out)
  clear E
  by_cases hk : 0 ≤ k ∧ k ≤ 2
  · obtain ⟨k0, k2⟩ := hk
    obtain ⟨t, ct, ht⟩ := HK.out k0 k2
    have HT := kd (HI.out t)
    rw [ht] at HT
    have d0 : decide (0 ≤ k) = true := decide_eq_true k0
    have d2 : decide (k ≤ 2) = true := decide_eq_true k2
    have d3 : decide (k < 3) = true := decide_eq_true (by omega)
    have HX := kd k2
    clear ht HK NK HI
    go_enter Tryz.func54, Tryz.ntmps54
    go_wp2_with (first | (go_at_call 120; refine (HL.out _).mono ?_; rintro e w' ⟨rfl, rfl⟩) | (go_at_call 121; refine (HD.out _).mono ?_; rintro e w' ⟨rfl, rfl⟩) | (go_at_call 66; refine (HM.out _).mono ?_; rintro e w' ⟨z, rfl, hz, rfl⟩) | (go_at_call 66; refine (HT.out _).mono ?_; rintro e w' ⟨z2, rfl, hz2, rfl⟩))
    go_ret
    exact ⟨ret_bool (by rw [E2.out]; first | rfl | exact hz2 | simp), Below.refl _ _⟩
  · have E3 := kd (show R = false by rw [E2.out, NK.out hk]; rfl)
    have hk2 := hk
    clear HK NK HI E2 hk
    by_cases k0 : 0 ≤ k
    · have d0 : decide (0 ≤ k) = true := decide_eq_true k0
      have d2 : decide (k ≤ 2) = false := decide_eq_false (by omega)
      clear k0 hk2
      go_enter Tryz.func54, Tryz.ntmps54
      go_wp2_with (first | (go_at_call 120; refine (HL.out _).mono ?_; rintro e w' ⟨rfl, rfl⟩) | (go_at_call 121; refine (HD.out _).mono ?_; rintro e w' ⟨rfl, rfl⟩) | (go_at_call 66; refine (HM.out _).mono ?_; rintro e w' ⟨z, rfl, hz, rfl⟩))
      go_ret
      exact ⟨ret_bool E3.out.symm, Below.refl _ _⟩
    · have d0 : decide (0 ≤ k) = false := decide_eq_false k0
      clear k0 hk2
      go_enter Tryz.func54, Tryz.ntmps54
      go_wp2_with (first | (go_at_call 120; refine (HL.out _).mono ?_; rintro e w' ⟨rfl, rfl⟩) | (go_at_call 121; refine (HD.out _).mono ?_; rintro e w' ⟨rfl, rfl⟩) | (go_at_call 66; refine (HM.out _).mono ?_; rintro e w' ⟨z, rfl, hz, rfl⟩))
      go_ret
      exact ⟨ret_bool E3.out.symm, Below.refl _ _⟩
theorem escat_any (s : ByteArray) (i : Nat) (w : World) (hi : i < s.size) (hs : s.size ≤ 4000000) : Calls Tryz.prog 55 #[.string s, .int .i64 i] w fun e w' => (∃ x : Int, e = .returned (.tuple #[.int .u8 x, .bool (decide (0 ≤ escAt (byteL s) i))]) ∧ (0 ≤ escAt (byteL s) i → x = escAt (byteL s) i)) ∧ w = w' := by
  have HL := byteL_len s
  have HB := byteL_by s
  have E := kd (show escAt (byteL s) i = if (byteL s).length ≤ i + 2 ∨ (byteL s).getD i 0 ≠ 37 ∨ hexV ((byteL s).getD (i + 1) 0) < 0 ∨ hexV ((byteL s).getD (i + 2) 0) < 0 then -1 else 16 * hexV ((byteL s).getD (i + 1) 0) + hexV ((byteL s).getD (i + 2) 0) from rfl)
  rw [HL] at E
  generalize escAt (byteL s) i = R at *
  by_cases h1 : s.size ≤ i + 2
  · have d1 : decide ((s.size : Int) ≤ (i : Int) + 2) = true := by simp; omega
    have E2 := kd (show R = -1 by rw [E.out, if_pos (.inl h1)])
    clear E HB HL
    go_enter Tryz.func55, Tryz.ntmps55
    go_wp2
    go_ret2
    refine ⟨⟨0, ?_, fun h => by rw [E2.out] at h; omega⟩, rfl⟩
    rw [E2.out]; rfl
  have d1 : decide ((s.size : Int) ≤ (i : Int) + 2) = false := by simp; omega
  have j0 := fun w => idx_str s (i := i) hi (z := (i : Int)) rfl w
  have j1 := fun w => idx_str s (i := i + 1) (by omega) (z := (i : Int) + 1) (by omega) w
  have j2 := fun w => idx_str s (i := i + 2) (by omega) (z := (i : Int) + 2) (by omega) w
  have b1 := HB _ (getD_mem (l := byteL s) (i := i + 1) (by rw [HL]; omega))
  have b2 := HB _ (getD_mem (l := byteL s) (i := i + 2) (by rw [HL]; omega))
  clear HB HL
  generalize (byteL s).getD i 0 = c0 at *
  generalize (byteL s).getD (i + 1) 0 = c1 at *
  generalize (byteL s).getD (i + 2) 0 = c2 at *
  have r1 := hexV_range c1
  have r2 := hexV_range c2
  have E2 := kd (show c0 ≠ 37 → R = -1 from fun h => by rw [E.out, if_pos (.inr (.inl h))])
  have E3 := kd (show c0 = 37 → (hexB c1 && hexB c2) = false → R = -1 from fun _ h => by
    rw [E.out, if_pos]
    unfold hexB at h
    right; right
    by_cases g1 : hexV c1 < 0
    · exact .inl g1
    · by_cases g2 : hexV c2 < 0
      · exact .inr g2
      · rw [decide_eq_true (by omega), decide_eq_true (by omega)] at h; cases h)
  have E4 := kd (show c0 = 37 → hexB c1 = true → hexB c2 = true → R = 16 * hexN c1 + hexN c2 ∧ 0 ≤ R from fun h h3 h4 => by
    unfold hexB at h3 h4
    have g1 := of_decide_eq_true h3
    have g2 := of_decide_eq_true h4
    have e : R = 16 * hexV c1 + hexV c2 := by rw [E.out, if_neg (by omega)]
    unfold hexN
    rw [if_neg (by omega), if_neg (by omega)]
    exact ⟨e, by omega⟩)
  have N1 : 0 ≤ hexN c1 ∧ hexN c1 < 16 := by unfold hexN; split <;> omega
  have N2 : 0 ≤ hexN c2 ∧ hexN c2 < 16 := by unfold hexN; split <;> omega
  clear r1 r2 E h1
  by_cases h2 : c0 = 37
  · subst h2
    have E3 := kd (E3.out rfl)
    have E4 := kd (E4.out rfl)
    have H1 := kd (fun w => hexdigit_any c1 w b1.1 b1.2)
    have H2 := kd (fun w => hexdigit_any c2 w b2.1 b2.2)
    generalize hexN c1 = v1 at *
    generalize hexN c2 = v2 at *
    generalize hexB c1 = t1 at *
    generalize hexB c2 = t2 at *
    obtain ⟨n1, n2⟩ := N1
    obtain ⟨n3, n4⟩ := N2
    have ho := or16 v1 v2 n1 n2 n3 n4
    clear b1 b2 E2
    cases t1 <;> cases t2
    case true.true =>
      obtain ⟨e, e0⟩ := E4.out rfl rfl
      have EE := kd e
      have D := kd (decide_eq_true e0)
      clear E3 E4 e e0
      go_enter Tryz.func55, Tryz.ntmps55
      go_wp2_with (first | (go_at_call 122; with_reducible refine (H1.out _).mono ?_; rintro e w' ⟨rfl, rfl⟩) | (go_at_call 122; with_reducible refine (H2.out _).mono ?_; rintro e w' ⟨rfl, rfl⟩))
      go_ret2
      refine ⟨⟨v1 * 16 + v2, ?_, fun _ => by rw [EE.out]; omega⟩, rfl⟩
      rw [D.out]
      first | rfl | (simp only [ho]; rfl)
    all_goals
      have EE := kd (E3.out rfl)
      clear E3 E4
      go_enter Tryz.func55, Tryz.ntmps55
      go_wp2_with (first | (go_at_call 122; with_reducible refine (H1.out _).mono ?_; rintro e w' ⟨rfl, rfl⟩) | (go_at_call 122; with_reducible refine (H2.out _).mono ?_; rintro e w' ⟨rfl, rfl⟩))
      go_ret2
      refine ⟨⟨v1 * 16 + v2, ?_, fun h => by rw [EE.out] at h; omega⟩, rfl⟩
      rw [EE.out]; rfl
  · have EE := kd (E2.out h2)
    have q0 : (c0 == 37) = false := by simpa using h2
    clear E2 E3 E4 b1 b2 N1 N2 j1 j2 h2
    go_enter Tryz.func55, Tryz.ntmps55
    go_wp2
    go_ret2
    refine ⟨⟨0, ?_, fun h => by rw [EE.out] at h; omega⟩, rfl⟩
    rw [EE.out]; rfl

theorem OX.step {w wr w1 : World} {v : Value} {xs : List Int} (H : OX w v xs wr) (hb : Below wr.heap.size wr w1) : OX w v xs w1 := by
  refine ⟨⟨H.o.1, ?_⟩, bthen H.bw hb⟩
  rcases H.o.2 with h0 | ⟨g, cap, cur, h1, h2, h3, h4⟩
  · exact .inl h0
  · exact .inr ⟨g, cap, cur, h1, h2, (hb.block g (lt_of_block h3)).trans h3, h4⟩
theorem step_pushB {ops : Array Oper} {o : Oper} {a : Act} {w w1 : World} {K : Act → World → Prop} {Q : Exit → Act → World → Prop} {E : Prop} (hgd : o.guard = none) (s x : Operand)
    (ho : o.op = .call { callee := .builtin .append, args := #[s, x], argTypes := #[69, 69] }) (v : Value) (xs : List Int) (hs : a.eval s = v) (H : OX w v xs w1) (ys : List Int) (b m : Nat) (hm : ys.length = m) (hm0 : 0 < m)
    (hx : a.eval x = .slice (some ⟨b, 0, none⟩) m m) (hB : Row w1 b 5 (U8 ys)) (hbound : xs.length + m ≤ 16777216)
    (h : ∀ v' w' L, Hid (L = xs ++ ys) → L.length = xs.length + m → Hid (OX w v' L w') → K (a.put o.dst v') w') :
    if Region.wanted o (yielded ops a.tmps) = true then Oper.wp Tryz.prog o a w1 K Q else E := by
  obtain ⟨i, hi, hz, hsz, hby⟩ := i5all
  refine step_append_lies _ hgd s x 69 ho w.heap.size 5 i (.int .u8 0) 1 1 Tryz.underlying69 hi hz hsz hby rfl (by decide) v xs.length (U8 xs) hs H.o ⟨b, 0, none⟩ m m (U8 ys) hx (by simp [U8, hm]) (fun j u hu => ?_) (fun u hu => ?_) hm0 (by unfold maxLen; omega) (by omega) H.bw.size _ rfl ?_
  · rw [Addr.add_mid, Nat.zero_add, hB.cell j]; exact hu
  · obtain ⟨y, _, rfl⟩ := List.mem_map.1 hu; rfl
  · intro g cap w' o1 g1 _ _
    refine h _ w' (xs ++ ys) (kd rfl) (by simp [hm]) (kd ⟨?_, H.bw.grown g1 H.bw.size (own_block H.o)⟩)
    have e : xs.length + m = (xs ++ ys).length := by simp [hm]
    rw [← e]
    unfold U8 at o1 ⊢
    rw [List.map_append]; exact o1
theorem up_at (n : Int) (h0 : 0 ≤ n) (h1 : n < 16) (w : World) : (Instr.index 9 (.string ⟨#[48, 49, 50, 51, 52, 53, 54, 55, 56, 57, 65, 66, 67, 68, 69, 70]⟩) (.int .u8 n)).run Tryz.prog w = .ok (.int .u8 (hexU n)) w := by
  obtain ⟨k, rfl⟩ := Int.eq_ofNat_of_zero_le h0
  rcases k with _ | _ | _ | _ | _ | _ | _ | _ | _ | _ | _ | _ | _ | _ | _ | _ | k
  all_goals first | omega | kernel_rfl
def ESR (w : World) (X : List Int) (k : Int) (n : Nat) (v v12 : Value) (wr : World) : Prop := ∃ (i : Nat) (x : Value) (L : List Int), i ≤ n ∧ x = v ∧ v12 = .int .i64 i ∧ L.length ≤ 3 * i ∧ Hid (L = escT k (X.take i)) ∧ Hid (OX w x L wr)
theorem escape_any (s : ByteArray) (k : Int) (w : World) (hs : s.size ≤ 4000000) (hC : CLS w) : Calls Tryz.prog 16 #[.string s, .int .i64 k] w fun e w' => e = .returned (.string (strOfNums (escT k (byteL s)))) ∧ Below w.heap.size w w' := by
  have HB := kd (byteL_by s)
  have HL := kd (byteL_len s)
  have HC := kd hC
  clear hC
  obtain ⟨X, hX⟩ : ∃ X, byteL s = X := ⟨_, rfl⟩
  have HX := kd hX
  rw [hX] at HL HB ⊢
  clear hX
  go_enter Tryz.func16, Tryz.ntmps16
  go_wp2_with (with_reducible refine wpList_make0 rfl _ _ s.size rfl ?h1 ?h2 (by omega) ?_)
  case h1 => rfl
  case h2 => rfl
  intro v0 w0 m0
  have M0 := kd m0
  clear m0
  go_wp2_with fail
  go_loopw [5, 12] (fun v v12 wr => ESR w X k s.size v v12 wr) (fun _ v _ => s.size - (intOf v).toNat)
  case atStart => exact ⟨0, _, [], Nat.zero_le _, rfl, rfl, Nat.le_refl _, kd rfl, M0⟩
  case round =>
    clear M0
    obtain ⟨i, x, L, hi, rfl, rfl, hL, EL, H⟩ := hrel
    by_cases hlt : i < s.size
    · have hd : decide ((i : Int) < (s.size : Int)) = true := by simp; omega
      have d1 := fun w => idx_str s (i := i) hlt (z := (i : Int)) rfl w
      have hx2 := HB.out _ (getD_mem (l := X) (i := i) (by rw [HL.out]; exact hlt))
      rw [HX.out] at d1
      have TS := kd (show escT k (X.take (i + 1)) = escT k (X.take i) ++ escC2 k (X.getD i 0) by rw [take_snocI X (by rw [HL.out]; exact hlt), escT_snoc])
      generalize X.getD i 0 = c at *
      have IC := kd (inclass_any c k wr hx2.1 hx2.2 (HC.out.below H.out.bw))
      cases hp : inC k c with
      | true =>
        have EC := kd (show escC2 k c = [c] by unfold escC2; rw [hp]; rfl)
        rw [hp] at IC
        clear hp
        go_wp2_with (first | (go_at_call 54; refine IC.out.mono ?_; rintro e w1 ⟨rfl, hb⟩; have H1 := kd (H.out.step hb); clear hb) | (with_reducible refine wpList_push1 rfl (.tmp 20) (.tmp 24) rfl x L rfl H1.out c rfl (by omega) ?_))
        intro v3 w3 L3 E3 l3 M3
        go_wp2_with fail
        go_roundw
        case rel => exact ⟨i + 1, v3, L3, by omega, rfl, by go_num, by omega, kd (by rw [E3.out, TS.out, EC.out, EL.out]), M3⟩
        case measure => simp [intOf]; omega
      | false =>
        have EC := kd (show escC2 k c = [37, hexU (c / 16), hexU (c % 16)] by unfold escC2; rw [hp]; rfl)
        rw [hp] at IC
        obtain ⟨x0, x1⟩ := hx2
        have e15 := and15 c x0 x1
        have u1 := fun w => up_at (c / 16) (by omega) (by omega) w
        have u2 := fun w => up_at (c % 16) (by omega) (by omega) w
        clear hp
        go_wp2_with (go_at_call 54; refine IC.out.mono ?_; rintro e w1 ⟨rfl, hb⟩; have H1 := kd (H.out.step hb); clear hb)
        have H2 := kd (H1.out.step (((Below.refl w1.heap.size w1).alloc (Nat.le_refl _) (.cells #[.int .u8 37, .int .u8 (hexU (c / 16)), .int .u8 (hexU (c % 16))] 5)).drew))
        have R2 := kd (show Row (w1.alloc (.cells #[.int .u8 37, .int .u8 (hexU (c / 16)), .int .u8 (hexU (c % 16))] 5)).drew w1.heap.size 5 (U8 [37, hexU (c / 16), hexU (c % 16)]) from Row.new w1 5 _)
        go_region_law (refine step_pushB rfl (.tmp 26) (.tmp 37) rfl x L rfl (w := w) H2.out [37, hexU (c / 16), hexU (c % 16)] w1.heap.size 3 rfl (by decide) rfl R2.out (by omega) ?_; intro v3 w3 L3 E3 l3 M3)
        all_goals
          go_wp2_with fail
          go_roundw
          case rel => exact ⟨i + 1, v3, L3, by omega, rfl, by go_num, by omega, kd (by rw [E3.out, TS.out, EC.out, EL.out]), M3⟩
          case measure => simp [intOf]; omega
    · obtain rfl : i = s.size := by omega
      have LE := kd (show L = escT k X by rw [EL.out, List.take_of_length_le (by rw [HL.out]; exact Nat.le_refl _)])
      have cv := conv_owned H.out.o
      go_wp2_with fail
      go_ret
      exact ⟨by rw [LE.out]; rfl, H.out.bw⟩

theorem max3_run {P : Program} (w : World) (ts : Array TypeId) (t : TypeId) (k k' k2 : IntKind) (x y z : Int) :
    (Builtin.max_ ts t #[.int k x, .int k' y, .int k2 z]).run P w = .ok (.int k (max (max x y) z)) w := by
  have e : (if y > x then y else x) = max x y := by rw [Int.max_def]; split <;> split <;> omega
  have e2 : (if z > max x y then z else max x y) = max (max x y) z := by rw [Int.max_def (max x y) z]; split <;> split <;> omega
  simp [Builtin.max_, Builtin.max2, e, e2]
attribute [go_sem high] max3_run
structure Ans where
  k : Int
  m : Int
  s : Int
  c : Bool
  e : Int
def Ans.v (a : Ans) : Value := .tuple #[.agg #[.int .i64 a.k, .int .i64 a.m, .int .i64 a.s, .bool a.c], .int .u8 a.e]

end Go.Proofs.YthfonniieaiocaaGreatDoor
