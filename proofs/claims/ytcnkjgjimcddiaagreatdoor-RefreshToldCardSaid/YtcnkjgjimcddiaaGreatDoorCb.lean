/- Contracts of lexis: the classes of characters. Contracts of lexis: skip, Blanks, TokenEnd, Token. -/
import Derived.Test.YtcnkjgjimcddiaaGreatDoorPe
import Derived.Test.YtcnkjgjimcddiaaGreatDoorRows
import Derived.WalkKit
import Derived.WalkSpells
import Derived.WalkLawsBesides
import Derived.Lib.Hide
import Derived.Deep.QuietTactic
import Derived.BigQuiet
namespace Go.Proofs.YtcnkjgjimcddiaaGreatDoor
open Go.RowKit

theorem ret_bool {a b : Bool} (h : a = b) : Ending.returned (.bool a) = .returned (.bool b) := by rw [h]
theorem blank_any (c : Int) (w : World) (h0 : 0 ≤ c) (h1 : c < 256) : Calls Tryz.prog 115 #[.int .u8 c] w fun e w' => e = .returned (.bool (isBlank c)) ∧ w = w' := by
  go_enter Tryz.func115, Tryz.ntmps115
  unfold isBlank
  by_cases hc : c = 32
  · subst hc
    go_wp2
    go_ret
    exact ⟨rfl, rfl⟩
  · have e1 : (c == 32) = false := by simp [hc]
    go_wp2
    go_ret
    exact ⟨ret_bool (by rw [e1]; rfl), rfl⟩
theorem control_any (c : Int) (w : World) (h0 : 0 ≤ c) (h1 : c < 256) : Calls Tryz.prog 117 #[.int .u8 c] w fun e w' => e = .returned (.bool (isCtl c)) ∧ w = w' := by
  go_enter Tryz.func117, Tryz.ntmps117
  unfold isCtl
  by_cases h2 : c < 32
  · have d2 : decide (c < 32) = true := by simp [h2]
    by_cases hc : c = 9
    · subst hc
      go_wp2
      go_ret
      exact ⟨rfl, rfl⟩
    · have e1 : (c == 9) = false := by simp [hc]
      go_wp2
      go_ret
      exact ⟨ret_bool (by rw [d2, e1]; rfl), rfl⟩
  · have d2 : decide (c < 32) = false := by simp [h2]
    go_wp2
    go_ret
    exact ⟨ret_bool (by first | rfl | (rw [d2]; rfl)), rfl⟩
theorem escaped_any (c : Int) (w : World) (h0 : 0 ≤ c) (h1 : c < 256) : Calls Tryz.prog 116 #[.int .u8 c] w fun e w' => e = .returned (.bool (decide (32 ≤ c ∧ c ≤ 126))) ∧ w = w' := by
  go_enter Tryz.func116, Tryz.ntmps116
  by_cases h2 : 32 ≤ c
  · have d2 : decide (32 ≤ c) = true := by simp [h2]
    go_wp2
    go_ret
    exact ⟨ret_bool (by simp [h2]), rfl⟩
  · have d2 : decide (32 ≤ c) = false := by simp [h2]
    go_wp2
    go_ret
    exact ⟨ret_bool (by simp [h2]), rfl⟩
theorem tok_t {c : Int} (h : (97 ≤ c ∧ c ≤ 122) ∨ (65 ≤ c ∧ c ≤ 90) ∨ (48 ≤ c ∧ c ≤ 57) ∨ c = 45 ∨ c = 46 ∨ c = 33 ∨ c = 37 ∨ c = 42 ∨ c = 95 ∨ c = 43 ∨ c = 39 ∨ c = 126 ∨ c = 96) : isTok c = true := by
  unfold isTok
  simp only [Bool.or_eq_true, Bool.and_eq_true, decide_eq_true_eq, beq_iff_eq]
  exact h
theorem tok_f {c : Int} (h : ¬ ((97 ≤ c ∧ c ≤ 122) ∨ (65 ≤ c ∧ c ≤ 90) ∨ (48 ≤ c ∧ c ≤ 57) ∨ c = 45 ∨ c = 46 ∨ c = 33 ∨ c = 37 ∨ c = 42 ∨ c = 95 ∨ c = 43 ∨ c = 39 ∨ c = 126 ∨ c = 96)) : isTok c = false := by
  cases e : isTok c with
  | false => rfl
  | true =>
    unfold isTok at e
    simp only [Bool.or_eq_true, Bool.and_eq_true, decide_eq_true_eq, beq_iff_eq] at e
    exact absurd e h
theorem token_any (c : Int) (w : World) (h0 : 0 ≤ c) (h1 : c < 256) : Calls Tryz.prog 70 #[.int .u8 c] w fun e w' => e = .returned (.bool (isTok c)) ∧ w = w' := by
  by_cases hT : (97 ≤ c ∧ c ≤ 122) ∨ (65 ≤ c ∧ c ≤ 90) ∨ (48 ≤ c ∧ c ≤ 57) ∨ c = 45 ∨ c = 46 ∨ c = 33 ∨ c = 37 ∨ c = 42 ∨ c = 95 ∨ c = 43 ∨ c = 39 ∨ c = 126 ∨ c = 96
  · rw [tok_t hT]
    go_enter Tryz.func70, Tryz.ntmps70
    rcases hT with ⟨a, b⟩ | ⟨a, b⟩ | ⟨a, b⟩ | rfl | rfl | rfl | rfl | rfl | rfl | rfl | rfl | rfl | rfl
    · have d1 : decide (97 ≤ c) = true := by simp [a]
      have d2 : decide (c ≤ 122) = true := by simp [b]
      go_wp2
      go_ret
      exact ⟨rfl, rfl⟩
    · have d1 : decide (97 ≤ c) = false := by simp; omega
      have d2 : decide (65 ≤ c) = true := by simp [a]
      have d3 : decide (c ≤ 90) = true := by simp [b]
      go_wp2
      go_ret
      exact ⟨rfl, rfl⟩
    · have d1 : decide (97 ≤ c) = false := by simp; omega
      have d2 : decide (65 ≤ c) = false := by simp; omega
      have d3 : decide (48 ≤ c) = true := by simp [a]
      have d4 : decide (c ≤ 57) = true := by simp [b]
      go_wp2
      go_ret
      exact ⟨rfl, rfl⟩
    all_goals
      go_wp2
      go_ret
      exact ⟨rfl, rfl⟩
  · rw [tok_f hT]
    go_enter Tryz.func70, Tryz.ntmps70
    have n1 : (c == 45) = false := by simp; omega
    have n2 : (c == 46) = false := by simp; omega
    have n3 : (c == 33) = false := by simp; omega
    have n4 : (c == 37) = false := by simp; omega
    have n5 : (c == 42) = false := by simp; omega
    have n6 : (c == 95) = false := by simp; omega
    have n7 : (c == 43) = false := by simp; omega
    have n8 : (c == 39) = false := by simp; omega
    have n9 : (c == 126) = false := by simp; omega
    have n0 : (c == 96) = false := by simp; omega
    by_cases a : 97 ≤ c
    · have d1 : decide (97 ≤ c) = true := by simp [a]
      have d2 : decide (c ≤ 122) = false := by simp; omega
      have d3 : decide (65 ≤ c) = true := by simp; omega
      have d4 : decide (c ≤ 90) = false := by simp; omega
      have d5 : decide (48 ≤ c) = true := by simp; omega
      have d6 : decide (c ≤ 57) = false := by simp; omega
      go_wp2
      go_ret
      exact ⟨rfl, rfl⟩
    · have d1 : decide (97 ≤ c) = false := by simp [a]
      by_cases b : 65 ≤ c
      · have d3 : decide (65 ≤ c) = true := by simp [b]
        have d4 : decide (c ≤ 90) = false := by simp; omega
        have d5 : decide (48 ≤ c) = true := by simp; omega
        have d6 : decide (c ≤ 57) = false := by simp; omega
        go_wp2
        go_ret
        exact ⟨rfl, rfl⟩
      · have d3 : decide (65 ≤ c) = false := by simp [b]
        by_cases b : 48 ≤ c
        · have d5 : decide (48 ≤ c) = true := by simp [b]
          have d6 : decide (c ≤ 57) = false := by simp; omega
          go_wp2
          go_ret
          exact ⟨rfl, rfl⟩
        · have d5 : decide (48 ≤ c) = false := by simp [b]
          go_wp2
          go_ret
          exact ⟨rfl, rfl⟩
end Go.Proofs.YtcnkjgjimcddiaaGreatDoor
namespace Go.Proofs.YtcnkjgjimcddiaaGreatDoor
open Go.RowKit

theorem idx_str (s : ByteArray) {i : Nat} (hi : i < s.size) {z : Int} (hz : z = i) (w : World) : (Instr.index 9 (.string s) (.int .i64 z)).run Tryz.prog w = .ok (.int .u8 ((byteL s).getD i 0)) w := by
  subst hz
  rw [run_index_string w 9 s .i64 i Tryz.underlying9, dif_pos ⟨by omega, by omega⟩, ← byteL_at s hi]
  rfl
theorem below_drewN (w : World) (q : Nat) : Below w.heap.size w (w.drewN q) := ⟨rfl, rfl, rfl, Nat.le_refl _, fun _ _ => rfl⟩
def SKR (w : World) (lo hi : Nat) (p : Int → Bool) (xs : List Int) (v : Value) (wr : World) : Prop := ∃ k : Nat, lo ≤ k ∧ k ≤ hi ∧ skipTo p xs lo = skipTo p xs k ∧ v = .int .i64 k ∧ ∃ q, w.drewN q = wr
set_option maxRecDepth 100000 in
theorem skip_blank (s : ByteArray) (z : Int) (w : World) (hz : -9223372036854775808 ≤ z ∧ z < 9223372036854775808) (hs : s.size < 9223372036854775807) :
    Calls Tryz.prog 69 #[.string s, .int .i64 z, .func (.func 115) #[] #[]] w fun e w' => e = .returned (.int .i64 (skipTo isBlank (byteL s) (clip z s.size))) ∧ Below w.heap.size w w' := by
  have CL := Lib.hid (show clip z s.size = min z.toNat s.size from rfl)
  generalize clip z s.size = lo at *
  have HB := Lib.hid (byteL_by s)
  have HL := Lib.hid (byteL_len s)
  generalize hX : byteL s = X at *
  have HX := Lib.hid hX
  clear hX
  go_enter Tryz.func69, Tryz.ntmps69
  go_wp2_with fail
  all_goals go_loopw [1] (fun v wr => SKR w lo s.size isBlank X v wr) (fun v _ => s.size - (intOf v).toNat)
  all_goals try (
    have := CL.out
    exact ⟨lo, Nat.le_refl _, by omega, rfl, by congr 1; omega, 0, rfl⟩)
  all_goals
    obtain ⟨k, hlo, hk, hsk, rfl, q, rfl⟩ := hrel
    have SK := Lib.hid hsk; clear hsk
    by_cases hlt : k < s.size
    · have hd : decide ((k : Int) < (s.size : Int)) = true := by simp; omega
      have d1 := fun w => idx_str s (i := k) hlt (z := (k : Int)) rfl w
      have hx2 := HB.out _ (getD_mem (l := X) (i := k) (by rw [HL.out]; exact hlt))
      rw [HX.out] at d1
      have SY := Lib.hid (fun h => skip_yes (p := isBlank) (xs := X) (i := k) (by rw [HL.out]; exact hlt) h)
      have SN := Lib.hid (fun h => skip_no (p := isBlank) (xs := X) (i := k) (by rw [HL.out]; exact hlt) h)
      generalize X.getD k 0 = x at *
      go_wp2_with fail
      refine (blank_any x _ hx2.1 hx2.2).mono ?_
      rintro e w' ⟨rfl, rfl⟩
      cases hp : isBlank x with
      | true =>
        go_wp2_with fail
        go_roundw
        case rel => exact ⟨k + 1, by omega, by omega, by rw [SK.out]; exact SY.out hp, by go_num, _, rfl⟩
        case measure => simp [intOf]; omega
      | false =>
        go_wp2_with fail
        go_ret
        exact ⟨by rw [SK.out, SN.out hp]; rfl, below_drewN _ _⟩
    · obtain rfl : k = s.size := by omega
      go_wp2_with fail
      go_ret
      exact ⟨by rw [SK.out, skip_end (by rw [HL.out]; omega)]; rfl, below_drewN _ _⟩
set_option maxRecDepth 100000 in
theorem skip_token (s : ByteArray) (z : Int) (w : World) (hz : -9223372036854775808 ≤ z ∧ z < 9223372036854775808) (hs : s.size < 9223372036854775807) :
    Calls Tryz.prog 69 #[.string s, .int .i64 z, .func (.func 70) #[] #[]] w fun e w' => e = .returned (.int .i64 (skipTo isTok (byteL s) (clip z s.size))) ∧ Below w.heap.size w w' := by
  have CL := Lib.hid (show clip z s.size = min z.toNat s.size from rfl)
  generalize clip z s.size = lo at *
  have HB := Lib.hid (byteL_by s)
  have HL := Lib.hid (byteL_len s)
  generalize hX : byteL s = X at *
  have HX := Lib.hid hX
  clear hX
  go_enter Tryz.func69, Tryz.ntmps69
  go_wp2_with fail
  all_goals go_loopw [1] (fun v wr => SKR w lo s.size isTok X v wr) (fun v _ => s.size - (intOf v).toNat)
  all_goals try (
    have := CL.out
    exact ⟨lo, Nat.le_refl _, by omega, rfl, by congr 1; omega, 0, rfl⟩)
  all_goals
    obtain ⟨k, hlo, hk, hsk, rfl, q, rfl⟩ := hrel
    have SK := Lib.hid hsk; clear hsk
    by_cases hlt : k < s.size
    · have hd : decide ((k : Int) < (s.size : Int)) = true := by simp; omega
      have d1 := fun w => idx_str s (i := k) hlt (z := (k : Int)) rfl w
      have hx2 := HB.out _ (getD_mem (l := X) (i := k) (by rw [HL.out]; exact hlt))
      rw [HX.out] at d1
      have SY := Lib.hid (fun h => skip_yes (p := isTok) (xs := X) (i := k) (by rw [HL.out]; exact hlt) h)
      have SN := Lib.hid (fun h => skip_no (p := isTok) (xs := X) (i := k) (by rw [HL.out]; exact hlt) h)
      generalize X.getD k 0 = x at *
      go_wp2_with fail
      refine (token_any x _ hx2.1 hx2.2).mono ?_
      rintro e w' ⟨rfl, rfl⟩
      cases hp : isTok x with
      | true =>
        go_wp2_with fail
        go_roundw
        case rel => exact ⟨k + 1, by omega, by omega, by rw [SK.out]; exact SY.out hp, by go_num, _, rfl⟩
        case measure => simp [intOf]; omega
      | false =>
        go_wp2_with fail
        go_ret
        exact ⟨by rw [SK.out, SN.out hp]; rfl, below_drewN _ _⟩
    · obtain rfl : k = s.size := by omega
      go_wp2_with fail
      go_ret
      exact ⟨by rw [SK.out, skip_end (by rw [HL.out]; omega)]; rfl, below_drewN _ _⟩
theorem blanks_any (s : ByteArray) (z : Int) (w : World) (hz : -9223372036854775808 ≤ z ∧ z < 9223372036854775808) (hs : s.size < 9223372036854775807) :
    Calls Tryz.prog 97 #[.string s, .int .i64 z] w fun e w' => e = .returned (.int .i64 (skipTo isBlank (byteL s) (clip z s.size))) ∧ Below w.heap.size w w' := by
  have HZ := Lib.hid hz; clear hz
  go_enter Tryz.func97, Tryz.ntmps97
  go_wp2_with fail
  refine (skip_blank s z w HZ.out hs).mono ?_
  rintro e w' ⟨rfl, hb⟩
  have HB := Lib.hid hb; clear hb
  go_wp2_with fail
  go_ret
  exact ⟨rfl, HB.out⟩
theorem tokend_any (s : ByteArray) (z : Int) (w : World) (hz : -9223372036854775808 ≤ z ∧ z < 9223372036854775808) (hs : s.size < 9223372036854775807) :
    Calls Tryz.prog 55 #[.string s, .int .i64 z] w fun e w' => e = .returned (.int .i64 (skipTo isTok (byteL s) (clip z s.size))) ∧ Below w.heap.size w w' := by
  have HZ := Lib.hid hz; clear hz
  go_enter Tryz.func55, Tryz.ntmps55
  go_wp2_with fail
  refine (skip_token s z w HZ.out hs).mono ?_
  rintro e w' ⟨rfl, hb⟩
  have HB := Lib.hid hb; clear hb
  go_wp2_with fail
  go_ret
  exact ⟨rfl, HB.out⟩
theorem byteL_nil {s : ByteArray} : byteL s = [] ↔ s = ⟨#[]⟩ := by
  constructor
  · intro h
    have := str_byteL s
    rw [h] at this
    exact this.symm
  · rintro rfl; rfl
theorem toList_inj {s t : ByteArray} : s.toList = t.toList ↔ s = t := by
  rw [ByteArray.toList_eq, ByteArray.toList_eq]
  exact ⟨fun h => ByteArray.ext (Array.toList_inj.1 h), fun h => by rw [h]⟩
theorem toList_nil {s : ByteArray} : s.toList = [] ↔ s = ⟨#[]⟩ := by
  rw [ByteArray.toList_eq]
  exact ⟨fun h => ByteArray.ext (Array.toList_inj.1 h), fun h => by rw [h]⟩
theorem lexToken_any (s : ByteArray) (w : World) (hs : s.size < 9223372036854775807) :
    Calls Tryz.prog 78 #[.string s] w fun e w' => e = .returned (.bool (isToken (byteL s))) ∧ Below w.heap.size w w' := by
  go_enter Tryz.func78, Tryz.ntmps78
  by_cases h : s = ⟨#[]⟩
  · subst h
    go_wp2
    go_ret
    exact ⟨rfl, Below.refl _ _⟩
  · have hn : ¬ s.toList = [] := fun e => h (toList_nil.1 e)
    have HN := Lib.hid (fun e => h (byteL_nil.1 e))
    clear h
    go_wp2_with fail
    refine (tokend_any s 0 w (by omega) hs).mono ?_
    rintro e w' ⟨rfl, hb⟩
    have HB := Lib.hid hb; clear hb
    have HL := Lib.hid (byteL_len s)
    go_wp2_with fail
    go_ret
    refine ⟨?_, HB.out⟩
    have hN := HN.out
    have hL := HL.out
    clear HN HL HB
    refine ret_bool ?_
    rw [show clip 0 s.size = 0 from by simp [clip]]
    unfold isToken
    rw [hL, show (byteL s).isEmpty = false from by cases hx : byteL s with
      | nil => exact (hN hx).elim
      | cons _ _ => rfl]
    simp only [Bool.not_false, Bool.true_and]
    rw [Bool.eq_iff_iff]
    simp [hn]
    try omega
end Go.Proofs.YtcnkjgjimcddiaaGreatDoor
