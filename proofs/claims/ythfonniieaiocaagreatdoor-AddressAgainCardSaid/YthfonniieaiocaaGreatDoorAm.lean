/- Contract: address.Params, where the text has no bracket. Contracts: lexis.Number, header.Number. Contract: header.Item, where the text has no bracket. Contracts: address.Get; header's kindOf, many, Many. -/
import Derived.Test.YthfonniieaiocaaGreatDoorAj
import Derived.Test.YthfonniieaiocaaGreatDoorAc
set_option linter.unusedVariables false
set_option linter.unusedSimpArgs false
namespace Go.Proofs.YthfonniieaiocaaGreatDoor
open Go.RowKit

def lenOf : Value → Nat
  | .slice _ n _ => n
  | _ => 0
def ParP (w : World) (R : Except (Nat × Int) (List Pm)) (e : Ending) (w' : World) : Prop := match R with
  | .error q => e = .returned (.tuple #[.slice none 0 0, .int .i64 (q.1 : Nat), .int .u8 q.2]) ∧ Below w.heap.size w w' ∧ q.2 ≠ 0
  | .ok l => ∃ v, e = .returned (.tuple #[v, .int .i64 0, .int .u8 0]) ∧ VX 56 3 w v l.length (pms l) w' ∧ l.length ≤ 16
theorem ParP.bad {w w' : World} {R : Except (Nat × Int) (List Pm)} {z : Nat} {k : Int} (h : R = .error (z, k)) (hk : k ≠ 0) (hb : Below w.heap.size w w') : ParP w R (.returned (.tuple #[.slice none 0 0, .int .i64 (z : Nat), .int .u8 k])) w' := by
  subst h; exact ⟨rfl, hb, hk⟩
theorem ParP.good {w w' : World} {R : Except (Nat × Int) (List Pm)} {l : List Pm} {v : Value} (h : R = .ok l) (hv : VX 56 3 w v l.length (pms l) w') (hl : l.length ≤ 16) : ParP w R (.returned (.tuple #[v, .int .i64 0, .int .u8 0])) w' := by
  subst h; exact ⟨v, rfl, hv, hl⟩
theorem roomL_zero {l : List Pm} {nm : List Int} (h : roomL l nm = 0) : l.length < 16 := by
  unfold roomL at h
  split at h
  · cases h
  · split at h
    · cases h
    · omega
def PRR (w : World) (cb : Nat) (s : ByteArray) (X : List Int) (R : Except (Nat × Int) (List Pm)) (v : Value) (wr : World) : Prop := ∃ (a f n c : Nat) (A : Option Addr) (l : List Pm), a ≤ s.size ∧ n ≤ 16 ∧ Hid (n = l.length) ∧ v = .slice A n c ∧ s.size + 1 ≤ f + a ∧ Hid (R = paramsN X f a l ∧ ∀ p ∈ l, By p.n) ∧ Hid (PS w cb s a l v wr)
end Go.Proofs.YthfonniieaiocaaGreatDoor
namespace Go.Proofs.YthfonniieaiocaaGreatDoor
open Go.RowKit

theorem valL_le10 {l : List Int} (h : l.all isDig = true) (hl : l.length ≤ 10) : 0 ≤ valL l ∧ valL l ≤ 9999999999 := by
  obtain ⟨h1, h2⟩ := valL_range l h
  have h3 : (10 : Int) ^ l.length ≤ 10 ^ 10 := by exact_mod_cast Nat.pow_le_pow_right (by decide) hl
  exact ⟨h1, by have h4 : (10 : Int) ^ 10 = 10000000000 := by decide
                omega⟩
theorem decnL_len {xs : List Int} (h : xs.length < 1 ∨ 10 < xs.length) : decnL xs = (0, 5) := by
  unfold decnL
  rw [if_pos (by rcases h with h | h; exact .inl h; exact .inr (.inl h))]
theorem decnL_bad {xs : List Int} (h : xs.all isDig = false) : decnL xs = (0, 5) := by
  unfold decnL
  rw [if_pos (.inr (.inr h))]
theorem decnL_big {xs : List Int} (h0 : 1 ≤ xs.length) (h1 : xs.length ≤ 10) (h : xs.all isDig = true) (hb : 2147483647 < valL xs) : decnL xs = (0, 3) := by
  unfold decnL
  rw [if_neg (by rintro (a | a | a); omega; omega; rw [h] at a; cases a), if_pos hb]
theorem decnL_ok {xs : List Int} (h0 : 1 ≤ xs.length) (h1 : xs.length ≤ 10) (h : xs.all isDig = true) (hb : ¬ 2147483647 < valL xs) : decnL xs = (valL xs, 0) := by
  unfold decnL
  rw [if_neg (by rintro (a | a | a); omega; omega; rw [h] at a; cases a), if_neg hb]
def decV (p : Int × Int) : Value := .tuple #[.int .i64 p.1, .int .u8 p.2]
set_option maxRecDepth 100000 in
set_option maxHeartbeats 1000000 in
theorem number_any (s : ByteArray) (w : World) : Calls Tryz.prog 133 #[.string s] w fun e w' => e = .returned (decV (decnL (byteL s))) ∧ w = w' := by
  have HL := Lib.hid (byteL_len s)
  have HB := Lib.hid (byteL_by s)
  have IDX := Lib.hid (fun (i : Nat) (h : i < s.size) (w : World) => idx_str s (i := i) h (z := (i : Int)) rfl w)
  have E0 := Lib.hid (fun h => decnL_len (xs := byteL s) h)
  have E1 := Lib.hid (fun h => decnL_bad (xs := byteL s) h)
  have E2 := Lib.hid (fun h0 h1 h h2 => decnL_big (xs := byteL s) h0 h1 h h2)
  have E3 := Lib.hid (fun h0 h1 h h2 => decnL_ok (xs := byteL s) h0 h1 h h2)
  generalize decnL (byteL s) = D at *
  generalize byteL s = X at *
  by_cases h0 : s.size < 1
  · have hd : decide ((s.size : Int) < 1) = true := by simp; omega
    have E := Lib.hid (E0.out (.inl (by rw [HL.out]; exact h0)))
    go_enter Tryz.func133, Tryz.ntmps133
    go_wp2_with fail
    go_ret2
    exact ⟨by rw [E.out]; rfl, rfl⟩
  · have hd : decide ((s.size : Int) < 1) = false := by simp; omega
    by_cases h1 : 10 < s.size
    · have hd1 : decide ((10 : Int) < (s.size : Int)) = true := by simp; omega
      have E := Lib.hid (E0.out (.inr (by rw [HL.out]; exact h1)))
      go_enter Tryz.func133, Tryz.ntmps133
      go_wp2_with fail
      go_ret2
      exact ⟨by rw [E.out]; rfl, rfl⟩
    · have hd1 : decide ((10 : Int) < (s.size : Int)) = false := by simp; omega
      have s1 : 1 ≤ s.size := by omega
      have s10 : s.size ≤ 10 := by omega
      go_enter Tryz.func133, Tryz.ntmps133
      go_wp2_with fail
      clear hd hd1 h0 h1 E0
      go_loop [4, 16] (fun vn vi => ∃ k : Nat, k ≤ s.size ∧ vi = .int .i64 k ∧ ∃ m : Int, vn = .int .i64 m ∧ 0 ≤ m ∧ m ≤ 9999999999 ∧ Hid (m = valL (X.take k) ∧ (X.take k).all isDig = true)) (fun vn vi => s.size - (intOf vi).toNat)
      case atStart => exact ⟨0, Nat.zero_le _, rfl, 0, rfl, by decide, by decide, Lib.hid ⟨rfl, rfl⟩⟩
      case round =>
        obtain ⟨k, hk, rfl, m, rfl, m0, m1, HK⟩ := hrel
        by_cases hlt : k < s.size
        · have hd : decide ((k : Int) < (s.size : Int)) = true := by simp; omega
          have dx := IDX.out k hlt
          have hkX : k < X.length := by rw [HL.out]; exact hlt
          have hx := HB.out _ (getD_mem hkX)
          have BAD := Lib.hid (fun h => E1.out (all_no (p := isDig) hkX h))
          have NXT := Lib.hid (fun (h : isDig (X.getD k 0) = true) => show (10 * m + (X.getD k 0 - 48)) = valL (X.take (k + 1)) ∧ (X.take (k + 1)).all isDig = true by
            rw [all_take_succ hkX, HK.out.2, h, take_snocI X hkX, valL_snoc, ← HK.out.1]
            exact ⟨rfl, rfl⟩)
          have NL := Lib.hid (show (X.take (k + 1)).length ≤ 10 by rw [List.length_take]; omega)
          clear hkX
          generalize X.getD k 0 = x at *
          by_cases h48 : x < 48
          · have d1 : decide (x < 48) = true := by simp [h48]
            have E := Lib.hid (BAD.out (by unfold isDig; simp; omega))
            go_wp2_with fail
            go_ret2
            exact ⟨by rw [E.out]; rfl, rfl⟩
          · have d1 : decide (x < 48) = false := by simpa using h48
            by_cases h57 : 57 < x
            · have d2 : decide (57 < x) = true := by simp [h57]
              have E := Lib.hid (BAD.out (by unfold isDig; simp; omega))
              go_wp2_with fail
              go_ret2
              exact ⟨by rw [E.out]; rfl, rfl⟩
            · have d2 : decide (57 < x) = false := by simpa using h57
              have x0 : 48 ≤ x := by omega
              have x1 : x ≤ 57 := by omega
              have N := NXT.out (by unfold isDig; simp; omega)
              have NB := valL_le10 N.2 NL.out
              rw [← N.1] at NB
              have NH := Lib.hid N
              obtain ⟨b0, b1⟩ := NB
              clear h48 h57 hx N BAD NXT NL
              go_wp2_with fail
              go_roundw
              case rel => exact ⟨k + 1, by omega, by go_num, 10 * m + (x - 48), by go_num, b0, b1, NH⟩
              case measure => simp [intOf]; omega
        · obtain rfl : k = s.size := by omega
          have TK : X.take s.size = X := List.take_of_length_le (by rw [HL.out]; exact Nat.le_refl _)
          rw [TK] at HK
          clear IDX HB E1
          by_cases hb : 2147483647 < m
          · have d1 : decide (2147483647 < m) = true := by simp [hb]
            have E := Lib.hid (E2.out (by rw [HL.out]; exact s1) (by rw [HL.out]; exact s10) HK.out.2 (by rw [← HK.out.1]; exact hb))
            go_wp2_with fail
            go_ret2
            exact ⟨by rw [E.out]; rfl, rfl⟩
          · have d1 : decide (2147483647 < m) = false := by simpa using hb
            have E := Lib.hid (E3.out (by rw [HL.out]; exact s1) (by rw [HL.out]; exact s10) HK.out.2 (by rw [← HK.out.1]; omega))
            rw [← HK.out.1] at E
            have hb2 : m ≤ 2147483647 := by omega
            clear hb
            go_wp2_with fail
            go_ret2
            exact ⟨by rw [E.out]; rfl, rfl⟩
end Go.Proofs.YthfonniieaiocaaGreatDoor
namespace Go.Proofs.YthfonniieaiocaaGreatDoor
open Go.RowKit

/-- What lies in a slice of one's own, kept over calls that only make memory. -/
def ItemP (w : World) (R : Except Int (List Int × List Pm)) (e : Ending) (w' : World) : Prop := match R with
  | .error k => e = .returned (.tuple #[.agg #[.string ⟨#[]⟩, .slice none 0 0], .int .u8 k]) ∧ Below w.heap.size w w' ∧ k ≠ 0
  | .ok q => ∃ A c, e = .returned (.tuple #[.agg #[.string (strOfNums q.1), .slice A q.2.length c], .int .u8 0]) ∧ Below w.heap.size w w' ∧ Rds w' w'.heap.size A (pms q.2) ∧ q.2.length ≤ 16 ∧ q.2.length ≤ c ∧ ∀ b o s, A = some ⟨b, o, s⟩ → w.heap.size ≤ b
theorem ItemP.bad {w w' : World} {R : Except Int (List Int × List Pm)} {k : Int} (h : R = .error k) (hk : k ≠ 0) (hb : Below w.heap.size w w') : ItemP w R (.returned (.tuple #[.agg #[.string ⟨#[]⟩, .slice none 0 0], .int .u8 k])) w' := by
  subst h; exact ⟨rfl, hb, hk⟩
theorem ItemP.good {w w' : World} {R : Except Int (List Int × List Pm)} {t : List Int} {l : List Pm} {A : Option Addr} {c : Nat} (h : R = .ok (t, l)) (hb : Below w.heap.size w w') (hr : Rds w' w'.heap.size A (pms l)) (hl : l.length ≤ 16) (hc : l.length ≤ c) (hf : ∀ b o s, A = some ⟨b, o, s⟩ → w.heap.size ≤ b) : ItemP w R (.returned (.tuple #[.agg #[.string (strOfNums t), .slice A l.length c], .int .u8 0])) w' := by
  subst h; exact ⟨A, c, rfl, hb, hr, hl, hc, hf⟩
end Go.Proofs.YthfonniieaiocaaGreatDoor
namespace Go.Proofs.YthfonniieaiocaaGreatDoor
open Go.RowKit

def gotV : Option (List Int) → Value
  | none => .tuple #[.string ⟨#[]⟩, .bool false]
  | some v => .tuple #[.string (strOfNums v), .bool true]
def missG (l : List Pm) (nm : List Int) (k : Nat) : Prop := ∀ j p, j < k → l[j]? = some p → (lowS p.n == lowS nm) = false
def KDV : List Value := KINDS.flatMap fun q => [.string (strOfNums q.1), .int .i64 q.2]
theorem lit_beq {c : List Int} (hc : By c) (u : List UInt8) : ((strOfNums c).toList == u) = (bl u == c) := by
  rw [Bool.eq_iff_iff, beq_iff_eq, beq_iff_eq, ByteArray.toList_eq]
  constructor
  · intro h
    rw [← byteL_str hc, byteL_bl, h]
  · rintro rfl
    apply bl_inj
    rw [bl_strOfNums (bl_by u)]
end Go.Proofs.YthfonniieaiocaaGreatDoor
