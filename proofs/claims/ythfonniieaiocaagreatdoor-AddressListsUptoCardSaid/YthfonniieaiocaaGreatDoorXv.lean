/- Contracts: the reference's index, display. Contract: the reference's display of words. Contract: the reference's value of a parameter. Contract: the reference's Params. -/
import Derived.Test.YthfonniieaiocaaGreatDoorWf
import Derived.Test.YthfonniieaiocaaGreatDoorCr
import Derived.Test.YthfonniieaiocaaGreatDoorLl
import Derived.Test.YthfonniieaiocaaGreatDoorWp
import Derived.Lib.MinMax
import Derived.Test.YthfonniieaiocaaGreatDoorXf
import Derived.Test.YthfonniieaiocaaGreatDoorXl
set_option linter.unusedVariables false
set_option linter.unusedSimpArgs false
set_option maxRecDepth 100000
namespace Go.Proofs.YthfonniieaiocaaGreatDoor
open Go.RowKit

end Go.Proofs.YthfonniieaiocaaGreatDoor
namespace Go.Proofs.YthfonniieaiocaaGreatDoor
open Go.RowKit

theorem str_append (a b : List Int) : strOfNums a ++ strOfNums b = strOfNums (a ++ b) := by
  unfold strOfNums
  simp [ByteArray.ext_iff]
end Go.Proofs.YthfonniieaiocaaGreatDoor
namespace Go.Proofs.YthfonniieaiocaaGreatDoor
open Go.RowKit

def valQ (xs : List Int) (a : Nat) : List Int × Nat × Int :=
  if atL xs a 34 = true then unq xs (a : Nat)
  else if atL xs a 91 = true then
    match hostL (subL xs a (min (untilL xs a [93] + 1) xs.length)) with
    | none => ([], a, 5)
    | some h => (h, untilL xs a [93] + 1, 0)
  else if skipTo isTok xs a = a then ([], a, 5) else (subL xs a (skipTo isTok xs a), skipTo isTok xs a, 0)
def valV (v : List Int × Nat × Int) : Value := .tuple #[.string (strOfNums v.1), .int .i64 (v.2.1 : Nat), .int .u8 v.2.2]
theorem atL_eq {xs : List Int} {a n : Nat} {c : Int} (hn : xs.length = n) : atL xs a c = (decide (a < n) && xs.getD a 0 == c) := by unfold atL; rw [hn]
theorem val_quote {xs : List Int} {a : Nat} (h : atL xs a 34 = true) : valQ xs a = unq xs (a : Nat) := by unfold valQ; rw [if_pos h]
theorem val_brack {xs : List Int} {a : Nat} (h : atL xs a 34 = false) (h2 : atL xs a 91 = true) : valQ xs a = match hostL (subL xs a (min (untilL xs a [93] + 1) xs.length)) with
    | none => ([], a, 5)
    | some h => (h, untilL xs a [93] + 1, 0) := by unfold valQ; rw [if_neg (by rw [h]; decide), if_pos h2]
theorem val_tok {xs : List Int} {a e : Nat} (h : atL xs a 34 = false) (h2 : atL xs a 91 = false) (he : skipTo isTok xs a = e) : valQ xs a = if e = a then ([], a, 5) else (subL xs a e, e, 0) := by
  unfold valQ; rw [if_neg (by rw [h]; decide), if_neg (by rw [h2]; decide), he]
set_option maxHeartbeats 2000000 in
theorem rvalue_any (s : ByteArray) (i : Nat) (w : World) (hi : i ≤ s.size) (hs : s.size ≤ 4000000) :
    Calls Tryz.prog 114 #[.string s, .int .i64 (i : Nat)] w fun e w' => e = .returned (valV (valQ (byteL s) i)) ∧ Below w.heap.size w w' := by
  have HL := kd (byteL_len s)
  by_cases hlt : i < s.size
  case neg =>
    obtain rfl : i = s.size := by omega
    have a1 : atL (byteL s) s.size 34 = false := by rw [atL_eq HL.out]; simp
    have a2 : atL (byteL s) s.size 91 = false := by rw [atL_eq HL.out]; simp
    have a3 : skipTo isTok (byteL s) s.size = s.size := skip_end (by rw [HL.out]; exact Nat.le_refl _)
    have E := kd ((val_tok a1 a2 a3).trans (if_pos rfl))
    have TK := kd (reftokend_any s (s.size : Int) w (by omega) (by omega))
    rw [show clip (s.size : Int) s.size = s.size by unfold clip; omega, a3] at TK
    have hd : decide ((s.size : Int) < (s.size : Int)) = false := by simp
    have e1 : ((s.size : Int) == (s.size : Int)) = true := by simp
    clear a1 a2 a3
    generalize valQ (byteL s) s.size = R at *
    go_enter Tryz.func114, Tryz.ntmps114
    go_wp2_with (go_at_call 113; refine TK.out.mono ?_; rintro _ w1 ⟨rfl, hb1⟩; have B1 := kd hb1)
    go_ret3
    exact ⟨by rw [E.out]; rfl, B1.out⟩
  have hd : decide ((i : Int) < (s.size : Int)) = true := by simp; omega
  have d1 := fun w => idx_str s (i := i) hlt (z := (i : Int)) rfl w
  have AT := kd (fun c => show atL (byteL s) i c = ((byteL s).getD i 0 == c) by rw [atL_eq HL.out]; simp [hlt])
  by_cases h34 : (byteL s).getD i 0 = 34
  · have a1 : atL (byteL s) i 34 = true := by rw [AT.out, h34]; rfl
    obtain ⟨U, hU⟩ : ∃ U, unq (byteL s) (i : Nat) = U := ⟨_, rfl⟩
    have UQ := kd (refunquote_b s i U w hU hi hs)
    have E := kd ((val_quote a1).trans hU)
    rw [h34] at d1
    clear a1 hU AT h34
    generalize valQ (byteL s) i = R at *
    go_enter Tryz.func114, Tryz.ntmps114
    go_wp2_with (go_at_call 149; refine UQ.out.mono ?_; rintro _ w1 ⟨rfl, hb1⟩; have B1 := kd hb1)
    go_ret3
    exact ⟨by rw [E.out]; rfl, B1.out⟩
  have a1 : atL (byteL s) i 34 = false := by rw [AT.out]; simpa using h34
  have q34 : ((byteL s).getD i 0 == 34) = false := by simpa using h34
  by_cases h91 : (byteL s).getD i 0 = 91
  · have a2 : atL (byteL s) i 91 = true := by rw [AT.out, h91]; rfl
    have VB := kd (val_brack a1 a2)
    rw [h91] at d1 q34
    have UY := kd (fun (j : Nat) (h : j < s.size) (hx : (byteL s).getD j 0 ≠ 93) => show untilL (byteL s) j [93] = untilL (byteL s) (j + 1) [93] from skip_yes (by rw [HL.out]; exact h) (by simpa using hx))
    have UN := kd (fun (j : Nat) (h : j < s.size) (hx : (byteL s).getD j 0 = 93) => show untilL (byteL s) j [93] = j from skip_no (by rw [HL.out]; exact h) (by rw [hx]; rfl))
    have UE := kd (show untilL (byteL s) s.size [93] = s.size from skip_end (by rw [HL.out]; exact Nat.le_refl _))
    have UL := until_le (xs := byteL s) (a := i) (st := [93]) (by rw [HL.out]; exact hi)
    rw [HL.out] at UL VB
    obtain ⟨k, hk⟩ : ∃ k, untilL (byteL s) i [93] = k := ⟨_, rfl⟩
    obtain ⟨m, hm⟩ : ∃ m, min (k + 1) s.size = m := ⟨_, rfl⟩
    rw [hk, hm] at VB
    rw [hk] at UL
    obtain ⟨ul1, ul2⟩ := UL
    have HK := kd hk
    have i1 : (i : Int) ≤ (m : Int) := by omega
    have i2 : (m : Int) ≤ (s.size : Int) := by omega
    have mz : min ((k : Int) + 1) (s.size : Int) = (m : Int) := by omega
    have ZL : byteL (s.extract i m) = subL (byteL s) i m := byteL_extract s i m
    have ZS : (s.extract i m).size ≤ 4000000 := by rw [← byteL_len, ZL]; have := (subL_sub (byteL s) i m).length_le; rw [byteL_len] at this; omega
    have HO := kd (fun w => rhost_any (s.extract i m) w ZS)
    rw [ZL] at HO
    clear ZL ZS a1 a2 h34 h91 AT hk hm
    generalize valQ (byteL s) i = R at *
    generalize hostL (subL (byteL s) i m) = H at *
    go_enter Tryz.func114, Tryz.ntmps114
    go_wp2_with fail
    clear hd d1 q34
    go_loopw [7] (fun v wr => ∃ j : Nat, i ≤ j ∧ j ≤ s.size ∧ v = .int .i64 j ∧ w = wr ∧ Hid (untilL (byteL s) j [93] = k)) (fun v _ => s.size - (intOf v).toNat)
    case atStart => exact ⟨i, Nat.le_refl _, hi, rfl, rfl, HK⟩
    case round =>
      clear HK
      obtain ⟨j, hij, hj, rfl, rfl, HU⟩ := hrel
      have MORE := kd (fun (h : j < s.size) (hx : (byteL s).getD j 0 ≠ 93) => (UY.out j h hx).symm.trans HU.out)
      have STOP := kd (show (j < s.size → (byteL s).getD j 0 = 93) → j = k from fun h => by
        by_cases hjs : j < s.size
        · rw [← HU.out, UN.out j hjs (h hjs)]
        · obtain rfl : j = s.size := by omega
          rw [← HU.out, UE.out])
      clear UY UN UE HU
      have TAIL : True := trivial
      by_cases hlt2 : j < s.size
      · have hd2 : decide ((j : Int) < (s.size : Int)) = true := by simp; omega
        have d2 := fun w => idx_str s (i := j) hlt2 (z := (j : Int)) rfl w
        by_cases hx : (byteL s).getD j 0 = 93
        · obtain rfl := STOP.out (fun _ => hx)
          rw [hx] at d2
          clear MORE STOP hx
          cases H with
          | none =>
            go_wp2_with (go_at_call 21; refine (HO.out _).mono ?_; unfold hostV; rintro _ w1 ⟨rfl, hb1⟩; have B1 := kd hb1)
            go_ret3
            exact ⟨by rw [VB.out]; rfl, B1.out⟩
          | some h =>
            go_wp2_with (go_at_call 21; refine (HO.out _).mono ?_; unfold hostV; rintro _ w1 ⟨rfl, hb1⟩; have B1 := kd hb1)
            go_ret3
            exact ⟨by rw [VB.out]; rfl, B1.out⟩
        · have e1 : ((byteL s).getD j 0 != 93) = true := by simpa using hx
          have M2 := kd (MORE.out hlt2 hx)
          clear MORE STOP hx
          generalize (byteL s).getD j 0 = x at *
          go_wp2_with fail
          go_roundw
          case rel => exact ⟨j + 1, by omega, by omega, by go_num, by first | rfl | trivial, M2⟩
          case measure => simp [intOf]; omega
      · have hd2 : decide ((j : Int) < (s.size : Int)) = false := by simp; omega
        obtain rfl := STOP.out (fun h => absurd h hlt2)
        clear MORE STOP
        cases H with
        | none =>
          go_wp2_with (go_at_call 21; refine (HO.out _).mono ?_; unfold hostV; rintro _ w1 ⟨rfl, hb1⟩; have B1 := kd hb1)
          go_ret3
          exact ⟨by rw [VB.out]; rfl, B1.out⟩
        | some h =>
          go_wp2_with (go_at_call 21; refine (HO.out _).mono ?_; unfold hostV; rintro _ w1 ⟨rfl, hb1⟩; have B1 := kd hb1)
          go_ret3
          exact ⟨by rw [VB.out]; rfl, B1.out⟩
  · have a2 : atL (byteL s) i 91 = false := by rw [AT.out]; simpa using h91
    have q91 : ((byteL s).getD i 0 == 91) = false := by simpa using h91
    obtain ⟨e, he⟩ : ∃ e, skipTo isTok (byteL s) i = e := ⟨_, rfl⟩
    have VT := kd (val_tok a1 a2 he)
    have TK := kd (reftokend_any s (i : Int) w (by omega) (by omega))
    rw [show clip (i : Int) s.size = i by unfold clip; omega, he] at TK
    have ei : i ≤ e := he ▸ skip_ge _ _ _
    have es : e ≤ s.size := by rw [← he, ← HL.out]; exact skip_le (by rw [HL.out]; exact hi)
    have ES := kd (show s.extract i e = strOfNums (subL (byteL s) i e) by rw [← show byteL (s.extract i e) = subL (byteL s) i e from byteL_extract s i e, str_byteL])
    clear a1 a2 h34 h91 AT he
    generalize (byteL s).getD i 0 = x at *
    generalize valQ (byteL s) i = R at *
    by_cases hei : e = i
    · subst hei
      have e1 : ((e : Int) == (e : Int)) = true := by simp
      rw [if_pos rfl] at VT
      go_enter Tryz.func114, Tryz.ntmps114
      go_wp2_with (go_at_call 113; refine TK.out.mono ?_; rintro _ w1 ⟨rfl, hb1⟩; have B1 := kd hb1)
      go_ret3
      exact ⟨by rw [VT.out]; rfl, B1.out⟩
    · have e1 : ((e : Int) == (i : Int)) = false := by simp; omega
      have i1 : (i : Int) ≤ (e : Int) := by omega
      have i2 : (e : Int) ≤ (s.size : Int) := by omega
      rw [if_neg hei] at VT
      go_enter Tryz.func114, Tryz.ntmps114
      go_wp2_with (go_at_call 113; refine TK.out.mono ?_; rintro _ w1 ⟨rfl, hb1⟩; have B1 := kd hb1)
      go_ret3
      exact ⟨by rw [VT.out, ES.out]; rfl, B1.out⟩
end Go.Proofs.YthfonniieaiocaaGreatDoor
namespace Go.Proofs.YthfonniieaiocaaGreatDoor
open Go.RowKit

theorem skip_idem (p : Int → Bool) (xs : List Int) (i : Nat) : skipTo p xs (skipTo p xs i) = skipTo p xs i := by
  by_cases h : skipTo p xs i < xs.length
  · exact skip_no h (skip_stop h)
  · exact skip_end (by omega)
theorem listedH_val {X : List Int} {a e1 b a2 : Nat} {V : List Int × Nat × Int} (h1 : skipTo isTok X a = e1) (h2 : skipTo isBlank X e1 = b) (h3 : skipTo isBlank X (b + 1) = a2) (hV : valQ X a2 = V) : listedH X a =
    if e1 = a then .error (e1, 5)
    else if atL X b 61 = false then .ok (⟨lowS (subL X a e1), [], false⟩, b)
    else if V.2.2 ≠ 0 then .error (V.2.1, V.2.2) else .ok (⟨lowS (subL X a e1), V.1, true⟩, V.2.1) := by
  subst hV
  rw [listedH_eq2 h1 h2 h3 rfl]
  by_cases c0 : e1 = a
  · rw [if_pos c0, if_pos c0]
  rw [if_neg c0, if_neg c0]
  by_cases c1 : b < X.length ∧ X.getD b 0 = 61
  · rw [if_neg (show ¬ ¬ (b < X.length ∧ X.getD b 0 = 61) from fun h => h c1), if_neg (show ¬ (atL X b 61 = false) from fun h => atL_no.1 h c1)]
    unfold valQ
    by_cases c2 : a2 < X.length ∧ X.getD a2 0 = 34
    · rw [if_pos c2, if_pos (atL_iff.2 c2)]
    · rw [if_neg c2, if_neg (fun h => c2 (atL_iff.1 h))]
      by_cases c3 : a2 < X.length ∧ X.getD a2 0 = 91
      · rw [if_pos c3, if_pos (atL_iff.2 c3)]
        cases hostL (subL X a2 (min (untilL X a2 [93] + 1) X.length)) with
        | none => dsimp only; rw [if_pos (by decide)]
        | some h => dsimp only; rw [if_neg (fun h => h rfl)]
      · rw [if_neg c3, if_neg (fun h => c3 (atL_iff.1 h))]
        by_cases c4 : skipTo isTok X a2 = a2
        · rw [if_pos c4, if_pos c4]; dsimp only; rw [if_pos (by decide)]
        · rw [if_neg c4, if_neg c4]; dsimp only; rw [if_neg (fun h => h rfl)]
  · rw [if_pos c1, if_pos (atL_no.2 c1)]
structure PsF (l : List Pm) : Prop where
  sz : ∀ p ∈ l, pmSz p
  low : ∀ p ∈ l, lowS p.n = p.n
  len : l.length ≤ 16
theorem PsF.nil : PsF [] := ⟨(fun p h => by cases h), (fun p h => by cases h), by decide⟩
theorem PsF.snoc {l : List Pm} {p : Pm} (h : PsF l) (h1 : pmSz p) (h2 : lowS p.n = p.n) (h3 : roomL l p.n = 0) : PsF (l ++ [p]) := by
  refine ⟨fun q hq => ?_, fun q hq => ?_, by rw [List.length_append, List.length_singleton]; have := roomL_zero h3; omega⟩
  · rcases List.mem_append.1 hq with h0 | h0
    · exact h.sz q h0
    · rw [List.mem_singleton] at h0; subst h0; exact h1
  · rcases List.mem_append.1 hq with h0 | h0
    · exact h.low q h0
    · rw [List.mem_singleton] at h0; subst h0; exact h2
set_option maxHeartbeats 4000000 in
theorem rparams_any (s : ByteArray) (w : World) (hs : s.size ≤ 4000000) : Calls Tryz.prog 48 #[.string s] w (ParP w (parsL (byteL s))) := by
  have HL := kd (byteL_len s)
  have HB := kd (byteL_by s)
  have PE := kd (show parsL (byteL s) = parsN (byteL s) (s.size + 1) 0 [] by unfold parsL; rw [byteL_len])
  have BAD := kd (fun w' z k (h : parsL (byteL s) = .error (z, k)) hk hb => ParP.bad (w := w) (w' := w') h hk hb)
  have GOOD := kd (fun w' l v (h : parsL (byteL s) = .ok l) hv hl => ParP.good (w := w) (w' := w') (l := l) (v := v) h hv hl)
  generalize ParP w (parsL (byteL s)) = PP at *
  generalize parsL (byteL s) = R at *
  obtain ⟨X, hX⟩ : ∃ X, byteL s = X := ⟨_, rfl⟩
  have HX := kd hX
  rw [hX] at HL HB PE
  obtain ⟨i0, hi0⟩ : ∃ i0, skipTo isBlank X 0 = i0 := ⟨_, rfl⟩
  have BL0 := kd (refblanksN s 0 0 w i0 rfl (Nat.zero_le _) (by rw [hX]; exact hi0) (by omega))
  have i0s : i0 ≤ s.size := by rw [← hi0, ← HL.out]; exact skip_le (Nat.zero_le _)
  have HI0 := kd hi0
  clear hX hi0
  go_enter Tryz.func48, Tryz.ntmps48
  go_upto_region 3 with (go_at_call 85; refine BL0.out.mono ?_; rintro _ w1 ⟨rfl, hb1⟩)
  have V1 := kd ((VX.nil 56 3 w).step hb1)
  clear hb1 BL0
  go_loopw [5, 6] (fun v vj wr => ∃ (j a f : Nat) (l : List Pm) (v' : Value), v' = v ∧ vj = .int .i64 j ∧ j ≤ s.size ∧ s.size + 1 ≤ f + 1 + j ∧ skipTo isBlank X a = j ∧ Hid (parsN X (f + 1) a l = R) ∧ Hid (PsF l) ∧ Hid (VX 56 3 w v' l.length (pms l) wr)) (fun _ v _ => s.size - (intOf v).toNat)
  case atStart => exact ⟨i0, 0, s.size, [], _, rfl, rfl, i0s, by omega, HI0.out, kd PE.out.symm, kd PsF.nil, V1⟩
  case round =>
    clear V1 HI0 PE
    obtain ⟨j, a, f, l, v, rfl, rfl, hj, hf, hja, RE, HF, V⟩ := hrel
    by_cases hlt : j < s.size
    · obtain ⟨g, rfl⟩ : ∃ g, f = g + 1 := ⟨f - 1, by omega⟩
      have hd : decide ((j : Int) < (s.size : Int)) = true := by simp; omega
      have d1 := fun w => idx_str s (i := j) hlt (z := (j : Int)) rfl w
      rw [HX.out] at d1
      have nle : ¬ X.length ≤ j := by rw [HL.out]; omega
      by_cases hx : X.getD j 0 = 59
      · rw [hx] at d1
        obtain ⟨a1, ha1⟩ : ∃ a1, skipTo isBlank X (j + 1) = a1 := ⟨_, rfl⟩
        obtain ⟨e1, he1⟩ : ∃ e1, skipTo isTok X a1 = e1 := ⟨_, rfl⟩
        obtain ⟨b, hb⟩ : ∃ b, skipTo isBlank X e1 = b := ⟨_, rfl⟩
        obtain ⟨a2, ha2⟩ : ∃ a2, skipTo isBlank X (b + 1) = a2 := ⟨_, rfl⟩
        have PG := kd (RE.out.symm.trans (parsN_go (f := g + 1) (l := l) hja nle hx ha1))
        have LH := kd (listedH_val he1 hb ha2 rfl)
        have a1s : a1 ≤ s.size := by rw [← ha1, ← HL.out]; exact skip_le (by rw [HL.out]; omega)
        have ja1 : j + 1 ≤ a1 := ha1 ▸ skip_ge _ _ _
        have e1s : e1 ≤ s.size := by rw [← he1, ← HL.out]; exact skip_le (by rw [HL.out]; exact a1s)
        have ae1 : a1 ≤ e1 := he1 ▸ skip_ge _ _ _
        have bs : b ≤ s.size := by rw [← hb, ← HL.out]; exact skip_le (by rw [HL.out]; exact e1s)
        have eb : e1 ≤ b := hb ▸ skip_ge _ _ _
        have BL1 := kd (fun w => refblanksN s ((j : Int) + 1) (j + 1) w a1 (by push_cast; rfl) (by omega) (by rw [HX.out]; exact ha1) (by omega))
        have TK1 := kd (fun w => reftokend_any s (a1 : Int) w (by omega) (by omega))
        rw [show clip (a1 : Int) s.size = a1 by unfold clip; omega, HX.out, he1] at TK1
        have BL2 := kd (fun w => refblanksN s (e1 : Int) e1 w b rfl e1s (by rw [HX.out]; exact hb) (by omega))
        have HA2 := kd (show skipTo isBlank (byteL s) (b + 1) = a2 by rw [HX.out]; exact ha2)
        have HB1 := kd hb
        clear RE ha1 he1 hb ha2 hx hja
        by_cases hea : e1 = a1
        · rw [if_pos hea] at LH
          have E := kd (PG.out.trans (by rw [LH.out]))
          subst hea
          have e1' : ((e1 : Int) == (e1 : Int)) = true := by simp
          clear LH PG
          go_wp2_with (first
            | (go_at_call 85; refine (BL1.out _).mono ?_; rintro _ w2 ⟨rfl, hb2⟩; have V2 := kd (V.out.step hb2))
            | (go_at_call 113; refine (TK1.out _).mono ?_; rintro _ w3 ⟨rfl, hb3⟩; have V3 := kd (V2.out.step hb3)))
          go_ret3
          exact BAD.out _ _ _ E.out (by decide) V3.out.bw
        · rw [if_neg hea] at LH
          have e1' : ((e1 : Int) == (a1 : Int)) = false := by simp; omega
          have LHno := kd (fun h => LH.out.trans (if_pos h))
          have LHyes := kd (fun (h : atL X b 61 = true) => LH.out.trans (if_neg (by rw [h]; decide)))
          have i1 : (a1 : Int) ≤ (e1 : Int) := by omega
          have i2' : (e1 : Int) ≤ (s.size : Int) := by omega
          have ES : (s.extract a1 e1).size ≤ 4000000 := by rw [← byteL_len, show byteL (s.extract a1 e1) = subL (byteL s) a1 e1 from byteL_extract s a1 e1]; have := (subL_sub (byteL s) a1 e1).length_le; rw [byteL_len] at this; omega
          have LW := kd (fun w => reflower_any (s.extract a1 e1) w ES)
          rw [show byteL (s.extract a1 e1) = subL (byteL s) a1 e1 from byteL_extract s a1 e1, HX.out] at LW
          clear LH hea
          go_upto_region 11 with (first
            | (go_at_call 85; refine (BL1.out _).mono ?_; rintro _ w2 ⟨rfl, hb2⟩; have V2 := kd (V.out.step hb2))
            | (go_at_call 113; refine (TK1.out _).mono ?_; rintro _ w3 ⟨rfl, hb3⟩; have V3 := kd (V2.out.step hb3))
            | (go_at_call 65; refine (LW.out _).mono ?_; rintro _ w4 ⟨rfl, hb4⟩; have V4 := kd (V3.out.step hb4))
            | (with_reducible refine wpList_storeN rfl 56 (.tmp 9) (.tmp 41) rfl [.string ⟨#[]⟩, .string ⟨#[]⟩, .bool false] [.string (strOfNums (lowS (subL X a1 e1))), .string ⟨#[]⟩, .bool false] rfl rfl rfl (sizePm _ _ _) (pm_one _ _ _) ?_; intro w5 R5 B5))
          have PG4 := kd (show w4.heap.size ≤ w4.heap.size from Nat.le_refl _)
          obtain ⟨pb, hpb⟩ : ∃ pb, w4.heap.size = pb := ⟨_, rfl⟩
          rw [show w4.heap.size ≤ w4.heap.size ↔ w4.heap.size ≤ pb by rw [hpb]] at PG4
          rw [hpb] at R5 ⊢
          clear hpb e1' d1 hd BL1 TK1 LW V V2 V3 hb2 hb3 hb4
          go_upto_region 12 with (go_at_call 85; refine (BL2.out _).mono ?_; rintro _ w6 ⟨rfl, hb6⟩; have R6 := kd (R5.out.below hb6); have B6 := kd (bthen B5.out hb6))
          clear R5 B5 hb6 BL2
          cases h61 : atL X b 61 with
          | false =>
            have AT := atL_no.1 h61
            rw [HL.out] at AT
            by_cases hbs : b < s.size
            · have hd : decide ((b : Int) < (s.size : Int)) = true := by simp; omega
              have d1 := fun w => idx_str s (i := b) hbs (z := (b : Int)) rfl w
              rw [HX.out] at d1
              have q61 : (X.getD b 0 == 61) = false := by simpa using fun h => AT ⟨hbs, h⟩
              generalize X.getD b 0 = xb at *
              go_upto_region 19 with (fail)
              clear hd d1 q61 AT hbs
              have NO := kd (LHno.out h61)
              have E := kd (PG.out.trans (by rw [NO.out]))
              have OK := listedH_ok HB.out (by rw [HL.out]; exact a1s) NO.out
              have PB := kd (show pmSz ⟨lowS (subL X a1 e1), [], false⟩ from ⟨OK.1, OK.2.1, by have := OK.2.2.1; rw [HL.out] at this; dsimp only at this ⊢; omega, by simp⟩)
              have NB := kd (show By (lowS (subL X a1 e1)) ∧ (lowS (subL X a1 e1)).length ≤ s.size from ⟨OK.1, by have := OK.2.2.1; rw [HL.out] at this; exact this⟩)
              have SK := kd (show skipTo isBlank X b = b by rw [← HB1.out]; exact skip_idem _ _ _)
              dsimp only at E
              clear NO OK LHno LHyes PG
              have V6 := kd (V4.out.step B6.out)
              obtain ⟨A, cp, hv, hA⟩ := V6.out.rdw
              subst hv
              obtain ⟨nm, hnm⟩ : ∃ nm, lowS (subL X a1 e1) = nm := ⟨_, rfl⟩
              obtain ⟨vv, hvv⟩ : ∃ vv : List Int, [] = vv := ⟨_, rfl⟩
              obtain ⟨hh, hhh⟩ : ∃ hh : Bool, false = hh := ⟨_, rfl⟩
              have NL := kd (show lowS nm = nm by rw [← hnm]; exact lowS_idem _)
              have RX := kd (show Row _ pb 56 [.string (strOfNums nm), .string (strOfNums vv), .bool hh] by rw [← hnm, ← hvv, ← hhh]; exact R6.out)
              rw [hnm, hvv, hhh] at E PB
              rw [hnm] at NB
              clear R6 hnm hvv hhh
              have k0 := RX.out.cell 0
              simp only [List.getElem?_cons_zero] at k0
              have RO := kd (rroom_any A l.length cp l nm _ hA rfl HF.out.sz (by have := HF.out.len; omega) NB.out.1 (by have := NB.out.2; omega))
              rw [roomF_low HF.out.low NL.out] at RO
              clear hA
              by_cases h0 : roomL l nm = 0
              · rw [if_neg (fun h => h h0)] at E
                have HF2 := kd (HF.out.snoc (p := ⟨nm, vv, hh⟩) PB.out NL.out h0)
                rw [h0] at RO
                replace h0 := kd h0
                go_upto_region 22 with (go_at_call 115; refine RO.out.mono ?_; rintro _ w8 ⟨rfl, hb8⟩)
                have V8 := kd (V6.out.step hb8)
                have R8 := kd (RX.out.below hb8)
                have B1 := kd (show l.length + 1 ≤ 16777216 by have := HF.out.len; omega)
                clear hb8 V6 RX k0 RO
                go_wp2_with (first
                  | (with_reducible refine wpList_loadR rfl 56 (.tmp 9) rfl R8.out rfl Tryz.underlying56 rfl (sizePm _ _ _) ?_)
                  | (with_reducible refine wpList_pushF rfl (.tmp 83) (.tmp 85) rfl rfl V8.out ⟨nm, vv, hh⟩ rfl B1.out ?_; intro v7 w7 H7))
                go_roundw
                case rel => exact ⟨b, b, g, l ++ [⟨nm, vv, hh⟩], _, rfl, by go_num, bs, by omega, SK.out, kd E.out.symm, HF2, H7⟩
                case measure => simp [intOf]; omega
              · rw [if_pos h0] at E
                have e1 : (roomL l nm != 0) = true := by simpa using h0
                generalize roomL l nm = rm at *
                go_wp2_with (go_at_call 115; refine RO.out.mono ?_; rintro _ w8 ⟨rfl, hb8⟩; have V8 := kd (V6.out.step hb8))
                go_ret3
                exact BAD.out _ _ _ E.out h0 V8.out.bw
            · have hd : decide ((b : Int) < (s.size : Int)) = false := by simp; omega
              go_upto_region 19 with (fail)
              clear hd AT hbs
              have NO := kd (LHno.out h61)
              have E := kd (PG.out.trans (by rw [NO.out]))
              have OK := listedH_ok HB.out (by rw [HL.out]; exact a1s) NO.out
              have PB := kd (show pmSz ⟨lowS (subL X a1 e1), [], false⟩ from ⟨OK.1, OK.2.1, by have := OK.2.2.1; rw [HL.out] at this; dsimp only at this ⊢; omega, by simp⟩)
              have NB := kd (show By (lowS (subL X a1 e1)) ∧ (lowS (subL X a1 e1)).length ≤ s.size from ⟨OK.1, by have := OK.2.2.1; rw [HL.out] at this; exact this⟩)
              have SK := kd (show skipTo isBlank X b = b by rw [← HB1.out]; exact skip_idem _ _ _)
              dsimp only at E
              clear NO OK LHno LHyes PG
              have V6 := kd (V4.out.step B6.out)
              obtain ⟨A, cp, hv, hA⟩ := V6.out.rdw
              subst hv
              obtain ⟨nm, hnm⟩ : ∃ nm, lowS (subL X a1 e1) = nm := ⟨_, rfl⟩
              obtain ⟨vv, hvv⟩ : ∃ vv : List Int, [] = vv := ⟨_, rfl⟩
              obtain ⟨hh, hhh⟩ : ∃ hh : Bool, false = hh := ⟨_, rfl⟩
              have NL := kd (show lowS nm = nm by rw [← hnm]; exact lowS_idem _)
              have RX := kd (show Row _ pb 56 [.string (strOfNums nm), .string (strOfNums vv), .bool hh] by rw [← hnm, ← hvv, ← hhh]; exact R6.out)
              rw [hnm, hvv, hhh] at E PB
              rw [hnm] at NB
              clear R6 hnm hvv hhh
              have k0 := RX.out.cell 0
              simp only [List.getElem?_cons_zero] at k0
              have RO := kd (rroom_any A l.length cp l nm _ hA rfl HF.out.sz (by have := HF.out.len; omega) NB.out.1 (by have := NB.out.2; omega))
              rw [roomF_low HF.out.low NL.out] at RO
              clear hA
              by_cases h0 : roomL l nm = 0
              · rw [if_neg (fun h => h h0)] at E
                have HF2 := kd (HF.out.snoc (p := ⟨nm, vv, hh⟩) PB.out NL.out h0)
                rw [h0] at RO
                replace h0 := kd h0
                go_upto_region 22 with (go_at_call 115; refine RO.out.mono ?_; rintro _ w8 ⟨rfl, hb8⟩)
                have V8 := kd (V6.out.step hb8)
                have R8 := kd (RX.out.below hb8)
                have B1 := kd (show l.length + 1 ≤ 16777216 by have := HF.out.len; omega)
                clear hb8 V6 RX k0 RO
                go_wp2_with (first
                  | (with_reducible refine wpList_loadR rfl 56 (.tmp 9) rfl R8.out rfl Tryz.underlying56 rfl (sizePm _ _ _) ?_)
                  | (with_reducible refine wpList_pushF rfl (.tmp 83) (.tmp 85) rfl rfl V8.out ⟨nm, vv, hh⟩ rfl B1.out ?_; intro v7 w7 H7))
                go_roundw
                case rel => exact ⟨b, b, g, l ++ [⟨nm, vv, hh⟩], _, rfl, by go_num, bs, by omega, SK.out, kd E.out.symm, HF2, H7⟩
                case measure => simp [intOf]; omega
              · rw [if_pos h0] at E
                have e1 : (roomL l nm != 0) = true := by simpa using h0
                generalize roomL l nm = rm at *
                go_wp2_with (go_at_call 115; refine RO.out.mono ?_; rintro _ w8 ⟨rfl, hb8⟩; have V8 := kd (V6.out.step hb8))
                go_ret3
                exact BAD.out _ _ _ E.out h0 V8.out.bw
          | true =>
            have AT := atL_iff.1 h61
            rw [HL.out] at AT
            obtain ⟨hbs, hxb⟩ := AT
            have hd : decide ((b : Int) < (s.size : Int)) = true := by simp; omega
            have d1 := fun w => idx_str s (i := b) hbs (z := (b : Int)) rfl w
            rw [HX.out, hxb] at d1
            go_upto_region 13 with (fail)
            clear hd d1 hxb
            have Y := kd (LHyes.out h61)
            have A2 := kd (fun w => refblanksN s ((b : Int) + 1) (b + 1) w a2 (by push_cast; rfl) (by omega) HA2.out (by omega))
            have a2s : a2 ≤ s.size := by rw [← HA2.out, HX.out, ← HL.out]; exact skip_le (by rw [HL.out]; omega)
            have VC := kd (fun w => rvalue_any s a2 w a2s (by omega))
            obtain ⟨⟨T, n, e⟩, hV⟩ : ∃ V, valQ X a2 = V := ⟨_, rfl⟩
            rw [hV] at Y
            simp only [HX.out, hV] at VC
            unfold valV at VC
            clear LHno LHyes hV h61
            by_cases he : e = 0
            · subst he
              rw [if_neg (fun h => h rfl)] at Y
              have E := kd (PG.out.trans (by rw [Y.out]))
              have OK := listedH_ok HB.out (by rw [HL.out]; exact a1s) Y.out
              have PB := kd (show pmSz ⟨lowS (subL X a1 e1), T, true⟩ from ⟨OK.1, OK.2.1, by have := OK.2.2.1; rw [HL.out] at this; dsimp only at this ⊢; omega, by have := OK.2.2.2.1; rw [HL.out] at this; dsimp only at this ⊢; omega⟩)
              have NB := kd (show By (lowS (subL X a1 e1)) ∧ (lowS (subL X a1 e1)).length ≤ s.size from ⟨OK.1, by have := OK.2.2.1; rw [HL.out] at this; exact this⟩)
              have n1 := OK.2.2.2.2.1
              have n2 := OK.2.2.2.2.2
              dsimp only at E
              rw [HL.out] at n2
              obtain ⟨i2, hi2⟩ : ∃ i2, skipTo isBlank X n = i2 := ⟨_, rfl⟩
              have I2 := kd (fun w => refblanksN s (n : Int) n w i2 rfl n2 (HX.out ▸ hi2) (by omega))
              have i2s : i2 ≤ s.size := by rw [← hi2, ← HL.out]; exact skip_le (by rw [HL.out]; exact n2)
              have ni : n ≤ i2 := hi2 ▸ skip_ge _ _ _
              have SK := kd hi2
              clear Y OK PG hi2
              go_upto_region 16 with (first
                | (go_at_call 85; refine (A2.out _).mono ?_; rintro _ w8 ⟨rfl, hb8⟩; have R8 := kd (R6.out.below hb8); have B8 := kd (bthen B6.out hb8))
                | (go_at_call 114; refine (VC.out _).mono ?_; rintro _ w9 ⟨rfl, hb9⟩; have R9 := kd (R8.out.below hb9); have B9 := kd (bthen B8.out hb9)))
              clear R6 B6 R8 B8 hb8 hb9 A2 VC
              have c1 := R9.out.cell 1
              have f1 := R9.out.frozen 1
              have R10 := kd (R9.out.set 1 (.string (strOfNums T)))
              have c2 := R10.out.cell 2
              have f2 := R10.out.frozen 2
              simp only [List.getElem?_cons_succ, List.getElem?_cons_zero, List.set_cons_succ, List.set_cons_zero] at c1 c2
              have R11a := R10.out.set 2 (.bool true)
              simp only [List.set_cons_succ, List.set_cons_zero] at R11a
              have R11 := kd R11a
              have B11 := kd ((B9.out.setCell (p := ⟨pb, 1, none⟩) PG4.out (.string (strOfNums T))).setCell (p := ⟨pb, 2, none⟩) PG4.out (.bool true))
              clear R11a R10
              go_upto_region 18 with (fail)
              clear c1 c2 f1 f2 R9 B9
              generalize (World.setCell _ ⟨pb, 1, none⟩ (.string (strOfNums T))).setCell ⟨pb, 2, none⟩ (.bool true) = w11 at *
              go_upto_region 19 with (go_at_call 85; refine (I2.out _).mono ?_; rintro _ w12 ⟨rfl, hb12⟩; have R12 := kd (R11.out.below hb12); have B12 := kd (bthen B11.out hb12))
              clear R11 B11 hb12 I2
              have V6 := kd (V4.out.step B12.out)
              obtain ⟨A, cp, hv, hA⟩ := V6.out.rdw
              subst hv
              obtain ⟨nm, hnm⟩ : ∃ nm, lowS (subL X a1 e1) = nm := ⟨_, rfl⟩
              obtain ⟨vv, hvv⟩ : ∃ vv : List Int, T = vv := ⟨_, rfl⟩
              obtain ⟨hh, hhh⟩ : ∃ hh : Bool, true = hh := ⟨_, rfl⟩
              have NL := kd (show lowS nm = nm by rw [← hnm]; exact lowS_idem _)
              have RX := kd (show Row _ pb 56 [.string (strOfNums nm), .string (strOfNums vv), .bool hh] by rw [← hnm, ← hvv, ← hhh]; exact R12.out)
              rw [hnm, hvv, hhh] at E PB
              rw [hnm] at NB
              clear R12 hnm hvv hhh
              have k0 := RX.out.cell 0
              simp only [List.getElem?_cons_zero] at k0
              have RO := kd (rroom_any A l.length cp l nm _ hA rfl HF.out.sz (by have := HF.out.len; omega) NB.out.1 (by have := NB.out.2; omega))
              rw [roomF_low HF.out.low NL.out] at RO
              clear hA
              by_cases h0 : roomL l nm = 0
              · rw [if_neg (fun h => h h0)] at E
                have HF2 := kd (HF.out.snoc (p := ⟨nm, vv, hh⟩) PB.out NL.out h0)
                rw [h0] at RO
                replace h0 := kd h0
                go_upto_region 22 with (go_at_call 115; refine RO.out.mono ?_; rintro _ w8 ⟨rfl, hb8⟩)
                have V8 := kd (V6.out.step hb8)
                have R8 := kd (RX.out.below hb8)
                have B1 := kd (show l.length + 1 ≤ 16777216 by have := HF.out.len; omega)
                clear hb8 V6 RX k0 RO
                go_wp2_with (first
                  | (with_reducible refine wpList_loadR rfl 56 (.tmp 9) rfl R8.out rfl Tryz.underlying56 rfl (sizePm _ _ _) ?_)
                  | (with_reducible refine wpList_pushF rfl (.tmp 83) (.tmp 85) rfl rfl V8.out ⟨nm, vv, hh⟩ rfl B1.out ?_; intro v7 w7 H7))
                go_roundw
                case rel => exact ⟨i2, n, g, l ++ [⟨nm, vv, hh⟩], _, rfl, by go_num, i2s, by omega, SK.out, kd E.out.symm, HF2, H7⟩
                case measure => simp [intOf]; omega
              · rw [if_pos h0] at E
                have e1 : (roomL l nm != 0) = true := by simpa using h0
                generalize roomL l nm = rm at *
                go_wp2_with (go_at_call 115; refine RO.out.mono ?_; rintro _ w8 ⟨rfl, hb8⟩; have V8 := kd (V6.out.step hb8))
                go_ret3
                exact BAD.out _ _ _ E.out h0 V8.out.bw
            · rw [if_pos he] at Y
              have E := kd (PG.out.trans (by rw [Y.out]))
              have e1' : (e != 0) = true := by simpa using he
              have HE := kd he
              clear Y PG he
              go_wp2_with (first
                | (go_at_call 85; refine (A2.out _).mono ?_; rintro _ w8 ⟨rfl, hb8⟩; have B8 := kd (bthen B6.out hb8))
                | (go_at_call 114; refine (VC.out _).mono ?_; rintro _ w9 ⟨rfl, hb9⟩; have B9 := kd (bthen B8.out hb9)))
              go_ret3
              exact BAD.out _ _ _ E.out HE.out (bthen V4.out.bw B9.out)
      · have E := kd (RE.out.symm.trans (parsN_sep (f := g + 1) (l := l) hja nle hx))
        have q59 : (X.getD j 0 != 59) = true := by simpa using hx
        clear RE hx hja
        generalize X.getD j 0 = x at *
        go_wp2_with fail
        go_ret3
        exact BAD.out _ _ _ E.out (by decide) V.out.bw
    · obtain rfl : j = s.size := by omega
      have hd : decide ((s.size : Int) < (s.size : Int)) = false := by simp
      have E := kd (RE.out.symm.trans (parsN_end (f := f) (l := l) hja (by rw [HL.out]; exact Nat.le_refl _)))
      go_wp2_with fail
      go_ret3
      exact GOOD.out _ _ _ E.out V.out HF.out.len
end Go.Proofs.YthfonniieaiocaaGreatDoor
