/- The law AddressPlain. -/
import Derived.Test.YthfonniieaiocaaGreatDoorYa
import Derived.Test.YthfonniieaiocaaGreatDoorWf
set_option linter.unusedVariables false
set_option linter.unusedSimpArgs false
namespace Go.Proofs.YthfonniieaiocaaGreatDoor
open Go.RowKit

theorem hexU_in (k : Int) {n : Int} (h0 : 0 ≤ n) (h1 : n < 16) : inC k (hexU n) = true := by
  unfold inC hexU
  by_cases h : n < 10
  · rw [if_pos h]
    have : isDig (48 + n) = true := by unfold isDig; simp; omega
    rw [this]; simp
  · rw [if_neg h]
    have : isLet (55 + n) = true := by unfold isLet; simp; omega
    rw [this]; rfl
theorem esc_in {k : Int} {xs : List Int} (hx : By xs) : ∀ x ∈ escT k xs, x = 37 ∨ inC k x = true := by
  intro x h
  unfold escT at h
  obtain ⟨c, hc, h2⟩ := List.mem_flatMap.1 h
  have := hx c hc
  unfold escC2 at h2
  by_cases hi : inC k c = true
  · rw [if_pos hi, List.mem_singleton] at h2
    subst h2; exact .inr hi
  · rw [if_neg hi] at h2
    simp only [List.mem_cons, List.not_mem_nil, or_false] at h2
    rcases h2 with rfl | rfl | rfl
    · exact .inl rfl
    · exact .inr (hexU_in k (by omega) (by omega))
    · exact .inr (hexU_in k (by omega) (by omega))
theorem esc_bounds (k : Int) : ∀ xs : List Int, xs.length ≤ (escT k xs).length ∧ (escT k xs).length ≤ 3 * xs.length
  | [] => ⟨Nat.le_refl _, Nat.le_refl _⟩
  | c :: xs => by
    have := esc_bounds k xs
    have e : escT k (c :: xs) = escC2 k c ++ escT k xs := rfl
    rw [e, List.length_append, List.length_cons]
    have h1 : 1 ≤ (escC2 k c).length ∧ (escC2 k c).length ≤ 3 := by unfold escC2; split <;> simp
    omega
set_option maxRecDepth 100000 in
set_option maxHeartbeats 2000000 in
theorem plain_any (s : ByteArray) (c : Int) (w : World) (hs : s.size ≤ 1048576) (hC : CLS w) (hG : GM w) (hP : PT w) (c0 : 0 ≤ c) (c1 : c ≤ 255) : Calls Tryz.prog 7 #[.string s, .int .u8 c] w fun e w' => e = .returned (.bool true) ∧ Below w.heap.size w w' := by
  have AW := Lib.hid (fun w' (h : Below w.heap.size w w') => awake_any w' (hC.below h) (hG.below h) (hP.below h))
  have ES := Lib.hid (fun k w' (h : Below w.heap.size w w') => escape_any s k w' (by omega) (hC.below h))
  have BX := byteL_by s
  have HL := byteL_len s
  have PL := Lib.hid (fun k => esc_in (k := k) BX)
  have EB := Lib.hid (fun k => esc_bounds k (byteL s))
  have UN := Lib.hid (fun k w' => unescape_any (strOfNums (escT k (byteL s))) w' (by have := (esc_bounds k (byteL s)).2; rw [num_size]; omega))
  have EY := Lib.hid (fun k => byteL_str (escT_by (k := k) BX))
  have UE := Lib.hid (fun k => unescL_esc k BX)
  have SB := Lib.hid (str_byteL s)
  clear hC hG hP BX
  rw [HL] at EB
  generalize byteL s = X at *
  go_enter Tryz.func7, Tryz.ntmps7
  go_wp2_with fail
  refine (ES.out _ _ (Below.refl _ _)).mono ?_
  rintro _ w1 ⟨rfl, hb1⟩
  have B1 := Lib.hid hb1
  have UA := Lib.hid (UN.out (c % 3))
  have PA := Lib.hid (PL.out (c % 3))
  obtain ⟨E1, E2⟩ := EB.out (c % 3)
  have EYA := EY.out (c % 3)
  have UV := Lib.hid (show unescV (escT (c % 3) X) = .tuple #[.string s, .int .i64 0, .int .u8 0] by unfold unescV; rw [UE.out (c % 3), SB.out]; rfl)
  rw [EYA] at UA
  rw [UV.out] at UA
  have IN := Lib.hid (fun x => rin_any x (c % 3))
  clear hb1 UN PL EB EY UE UV ES SB
  have HT := num_size (escT (c % 3) X)
  rw [← HT] at E1 E2
  generalize hT : strOfNums (escT (c % 3) X) = t at *
  generalize escT (c % 3) X = T at *
  generalize c % 3 = kk at *
  have EYB := Lib.hid EYA
  clear EYA hT
  go_wp2_with fail
  go_loopw [7] (fun v wr => ∃ j : Nat, j ≤ t.size ∧ v = .int .i64 j ∧ w1 = wr) (fun v _ => t.size - (intOf v).toNat)
  case atStart => exact ⟨0, Nat.zero_le _, rfl, rfl⟩
  case round =>
    obtain ⟨j, hj, rfl, rfl⟩ := hrel
    by_cases hlt : j < t.size
    · have hd : decide ((j : Int) < (t.size : Int)) = true := by simp; omega
      have d1 := fun w => idx_str t (i := j) hlt (z := (j : Int)) rfl w
      rw [EYB.out] at d1
      have PX := PA.out (T.getD j 0) (getD_mem (l := T) (i := j) (by rw [← HT]; exact hlt))
      generalize T.getD j 0 = x at *
      by_cases hx : x = 37
      · have dx : (x == 37) = true := by simp [hx]
        have dx2 : (x != 37) = false := by simp [hx]
        clear PX
        subst hx
        go_wp2_with fail
        go_roundw
        case rel => exact ⟨j + 1, by omega, by go_num, trivial⟩
        case measure => simp [intOf]; omega
      · have dx : (x == 37) = false := by simpa using hx
        have dx2 : (x != 37) = true := by simpa using hx
        have PY := PX.resolve_left hx
        clear PX
        have IX := Lib.hid (IN.out x)
        rw [PY] at IX
        go_wp2_with fail
        refine (IX.out _).mono ?_
        rintro _ _ ⟨rfl, rfl⟩
        go_wp2_with fail
        go_roundw
        case rel => exact ⟨j + 1, by omega, by go_num, trivial⟩
        case measure => simp [intOf]; omega
    · obtain rfl : j = t.size := by omega
      have hd : decide ((t.size : Int) < (t.size : Int)) = false := by simp
      have dl : decide ((s.size : Int) ≤ (t.size : Int)) = true := by simp; omega
      go_wp2_with fail
      refine (UA.out _).mono ?_
      rintro _ w2 ⟨rfl, hb2⟩
      have B2 := Lib.hid (bthen B1.out hb2)
      have q0 : s.size ≤ t.size := E1
      clear hb2
      go_wp2_with fail
      refine (AW.out _ B2.out).mono ?_
      rintro _ w3 ⟨rfl, hb3⟩
      have B3 := Lib.hid (bthen B2.out hb3)
      go_wp2_with fail
      go_ret
      exact ⟨rfl, B3.out⟩
end Go.Proofs.YthfonniieaiocaaGreatDoor
