/- Contracts: the reference's index, display. Contract: the reference's display of words. Contract: the reference's value of a parameter. -/
import Derived.Test.YthfonniieaiocaaGreatDoorWf
import Derived.Test.YthfonniieaiocaaGreatDoorCr
import Derived.Test.YthfonniieaiocaaGreatDoorLl
import Derived.Test.YthfonniieaiocaaGreatDoorWp
import Derived.Lib.MinMax
set_option linter.unusedVariables false
set_option linter.unusedSimpArgs false
set_option maxRecDepth 100000
namespace Go.Proofs.YthfonniieaiocaaGreatDoor
open Go.RowKit

theorem results_t4 {fn : Func} {t u v x : Tmp} (h : fn.results = #[.tmp t, .tmp u, .tmp v, .tmp x]) (tmps : Array Value) (P : Program) (w : World) :
    (results fn tmps).run P w = .ok (.tuple #[tmps.getD t undef, tmps.getD u undef, tmps.getD v undef, tmps.getD x undef]) w := by
  simp [results, h]
def idxA (X : List Int) (a : Nat) (c : Int) : Int := if X.length ≤ untilL X a [c] then -1 else (untilL X a [c] : Int)
theorem rindex_any (s : ByteArray) (a : Nat) (c : Int) (w : World) (ha : a ≤ s.size) (hs : s.size ≤ 4000000) : Calls Tryz.prog 86 #[.string s, .int .i64 (a : Nat), .int .u8 c] w fun e w' => e = .returned (.int .i64 (idxA (byteL s) a c)) ∧ w = w' := by
  have HL := kd (byteL_len s)
  have EY := kd (fun (j : Nat) (h : j < s.size) (hx : (byteL s).getD j 0 ≠ c) => show untilL (byteL s) j [c] = untilL (byteL s) (j + 1) [c] from skip_yes (by rw [HL.out]; exact h) (by simpa using hx))
  have EN := kd (fun (j : Nat) (h : j < s.size) (hx : (byteL s).getD j 0 = c) => show untilL (byteL s) j [c] = j from skip_no (by rw [HL.out]; exact h) (by rw [hx]; simp))
  have EE := kd (show untilL (byteL s) s.size [c] = s.size from skip_end (by rw [HL.out]; exact Nat.le_refl _))
  have IX := kd (show idxA (byteL s) a c = if s.size ≤ untilL (byteL s) a [c] then -1 else (untilL (byteL s) a [c] : Int) by unfold idxA; rw [HL.out])
  generalize idxA (byteL s) a c = R at *
  go_enter Tryz.func86, Tryz.ntmps86
  go_wp2_with fail
  go_loopw [7] (fun v wr => ∃ j : Nat, j ≤ s.size ∧ v = .int .i64 j ∧ w = wr ∧ Hid (untilL (byteL s) j [c] = untilL (byteL s) a [c])) (fun v _ => s.size - (intOf v).toNat)
  case atStart => exact ⟨a, ha, rfl, rfl, kd rfl⟩
  case round =>
    obtain ⟨j, hj, rfl, rfl, HU⟩ := hrel
    by_cases hlt : j < s.size
    · have hd : decide ((j : Int) < (s.size : Int)) = true := by simp; omega
      have d1 := fun w => idx_str s (i := j) hlt (z := (j : Int)) rfl w
      by_cases hx : (byteL s).getD j 0 = c
      · have E := kd (show R = (j : Int) by rw [IX.out, ← HU.out, EN.out j hlt hx, if_neg (by omega)])
        have e1 : ((byteL s).getD j 0 == c) = true := beq_iff_eq.2 hx
        clear hx EY EN EE HU
        generalize (byteL s).getD j 0 = x at *
        go_wp2_with fail
        go_ret
        exact ⟨by rw [E.out]; rfl, rfl⟩
      · have e1 : ((byteL s).getD j 0 == c) = false := by simpa using hx
        have HU2 := kd ((EY.out j hlt hx).symm.trans HU.out)
        clear hx EY EN EE HU
        generalize (byteL s).getD j 0 = x at *
        go_wp2_with fail
        go_roundw
        case rel => exact ⟨j + 1, by omega, by go_num, by first | rfl | trivial, HU2⟩
        case measure => simp [intOf]; omega
    · obtain rfl : j = s.size := by omega
      have hd : decide ((s.size : Int) < (s.size : Int)) = false := by simp
      have E := kd (show R = -1 by rw [IX.out, ← HU.out, EE.out, if_pos (Nat.le_refl _)])
      clear EY EN EE HU
      go_wp2_with fail
      go_ret
      exact ⟨by rw [E.out]; rfl, rfl⟩
def quotD (xs : List Int) (a : Nat) : Except (Nat × Int) (List Int × Nat) :=
  if (unq xs (a : Nat)).2.2 ≠ 0 then .error ((unq xs (a : Nat)).2.1, (unq xs (a : Nat)).2.2)
  else if atL xs (skipTo isBlank xs (unq xs (a : Nat)).2.1) 60 = false then .error (skipTo isBlank xs (unq xs (a : Nat)).2.1, 5)
  else .ok ((unq xs (a : Nat)).1, skipTo isBlank xs (unq xs (a : Nat)).2.1)
def wordD : Except Nat (List (List Int) × Nat) → Except (Nat × Int) (List Int × Nat)
  | .error e => .error (e, 5)
  | .ok r => .ok (joinL [32] r.1, r.2)
def dspV : Except (Nat × Int) (List Int × Nat) → Value
  | .error z => .tuple #[.string ⟨#[]⟩, .int .i64 0, .int .i64 (z.1 : Nat), .int .u8 z.2]
  | .ok r => .tuple #[.string (strOfNums r.1), .int .i64 (r.2 : Nat), .int .i64 0, .int .u8 0]
theorem quot_err {xs : List Int} {a n : Nat} {T : List Int} {e : Int} (h : unq xs (a : Nat) = (T, n, e)) (he : e ≠ 0) : quotD xs a = .error (n, e) := by
  unfold quotD; rw [h]; exact if_pos he
theorem quot_no {xs : List Int} {a n b : Nat} {T : List Int} (h : unq xs (a : Nat) = (T, n, 0)) (hb : skipTo isBlank xs n = b) (h2 : atL xs b 60 = false) : quotD xs a = .error (b, 5) := by
  unfold quotD; rw [h]; dsimp only; rw [if_neg (fun h => h rfl), hb, if_pos h2]
theorem quot_ok {xs : List Int} {a n b : Nat} {T : List Int} (h : unq xs (a : Nat) = (T, n, 0)) (hb : skipTo isBlank xs n = b) (h2 : atL xs b 60 = true) : quotD xs a = .ok (T, b) := by
  unfold quotD; rw [h]; dsimp only; rw [if_neg (fun h => h rfl), hb, if_neg (by rw [h2]; decide)]
theorem rdispq_any (s : ByteArray) (i : Nat) (less : Int) (w : World) (hi : i < s.size) (hs : s.size ≤ 4000000) (h : (byteL s).getD i 0 = 34) :
    Calls Tryz.prog 88 #[.string s, .int .i64 (i : Nat), .int .i64 less] w fun e w' => e = .returned (dspV (quotD (byteL s) i)) ∧ Below w.heap.size w w' := by
  have HL := kd (byteL_len s)
  have d1 := fun w => idx_str s (i := i) hi (z := (i : Int)) rfl w
  rw [h] at d1
  obtain ⟨⟨T, n, e⟩, hU⟩ : ∃ U, unq (byteL s) (i : Nat) = U := ⟨_, rfl⟩
  have UQ := kd (fun w => refunquote_b s i (T, n, e) w hU (by omega) hs)
  have QE := kd (fun h => quot_err hU h)
  by_cases he : e = 0
  · subst he
    obtain ⟨b, hb⟩ : ∃ b, skipTo isBlank (byteL s) n = b := ⟨_, rfl⟩
    have nl : n ≤ s.size := by have := (unq_pos (xs := byteL s) (i := i) (by rw [HL.out]; omega)).1; rw [hU, HL.out] at this; exact this
    have BL := kd (fun w => refblanksN s (n : Int) n w b rfl nl hb hs)
    have bl : b ≤ s.size := by rw [← hb, ← HL.out]; exact skip_le (by rw [HL.out]; exact nl)
    have QN := kd (fun h => quot_no hU hb h)
    have QY := kd (fun h => quot_ok hU hb h)
    have AT := kd (show atL (byteL s) b 60 = (decide (b < s.size) && (byteL s).getD b 0 == 60) by unfold atL; rw [HL.out])
    have d2 := kd (fun (h : b < s.size) (w : World) => idx_str s (i := b) h (z := (b : Int)) rfl w)
    clear hU hb QE h
    generalize quotD (byteL s) i = R at *
    generalize (byteL s).getD b 0 = x at *
    generalize atL (byteL s) b 60 = a6 at *
    go_enter Tryz.func88, Tryz.ntmps88
    by_cases hbs : b = s.size
    · subst hbs
      have E := kd (QN.out (by rw [AT.out]; simp))
      have e1 : ((s.size : Int) == (s.size : Int)) = true := by simp
      clear QN QY AT d2
      go_wp2_with (first
        | (go_at_call 149; refine (UQ.out _).mono ?_; rintro _ w1 ⟨rfl, hb1⟩; have B1 := kd hb1)
        | (go_at_call 85; refine (BL.out _).mono ?_; rintro _ w2 ⟨rfl, hb2⟩; have B2 := kd (bthen B1.out hb2)))
      (try simp only [Exit.inBlock, Exit.then]); refine bodyPost_ret (results_t4 rfl _ _ _) rfl ?_
      exact ⟨by rw [E.out]; rfl, B2.out⟩
    · have hlt : b < s.size := by omega
      have e1 : ((b : Int) == (s.size : Int)) = false := by simp; omega
      have d3 := d2.out hlt
      by_cases hx : x = 60
      · subst hx
        have E := kd (QY.out (by rw [AT.out]; simp [hlt]))
        clear QN QY AT d2
        go_wp2_with (first
          | (go_at_call 149; refine (UQ.out _).mono ?_; rintro _ w1 ⟨rfl, hb1⟩; have B1 := kd hb1)
          | (go_at_call 85; refine (BL.out _).mono ?_; rintro _ w2 ⟨rfl, hb2⟩; have B2 := kd (bthen B1.out hb2)))
        (try simp only [Exit.inBlock, Exit.then]); refine bodyPost_ret (results_t4 rfl _ _ _) rfl ?_
        exact ⟨by rw [E.out]; rfl, B2.out⟩
      · have E := kd (QN.out (by rw [AT.out]; simp [hx]))
        have e2 : (x != 60) = true := by simpa using hx
        clear QN QY AT d2 hx
        go_wp2_with (first
          | (go_at_call 149; refine (UQ.out _).mono ?_; rintro _ w1 ⟨rfl, hb1⟩; have B1 := kd hb1)
          | (go_at_call 85; refine (BL.out _).mono ?_; rintro _ w2 ⟨rfl, hb2⟩; have B2 := kd (bthen B1.out hb2)))
        (try simp only [Exit.inBlock, Exit.then]); refine bodyPost_ret (results_t4 rfl _ _ _) rfl ?_
        exact ⟨by rw [E.out]; rfl, B2.out⟩
  · have E := kd (QE.out he)
    have e1 : (e != 0) = true := by simpa using he
    clear hU QE h
    replace he := kd he
    generalize quotD (byteL s) i = R at *
    go_enter Tryz.func88, Tryz.ntmps88
    go_wp2_with (go_at_call 149; refine (UQ.out _).mono ?_; rintro _ w1 ⟨rfl, hb1⟩; have B1 := kd hb1)
    (try simp only [Exit.inBlock, Exit.then]); refine bodyPost_ret (results_t4 rfl _ _ _) rfl ?_
    exact ⟨by rw [E.out]; rfl, B1.out⟩
theorem words_end {xs : List Int} {f a : Nat} {l : List (List Int)} (h : atL xs a 60 = true) : wordsN xs (f + 1) a l = .ok (l, a) := by unfold wordsN; rw [if_pos h]
theorem words_bad {xs : List Int} {f a : Nat} {l : List (List Int)} (h : atL xs a 60 = false) (h2 : skipTo isTok xs a = a) : wordsN xs (f + 1) a l = .error a := by unfold wordsN; rw [if_neg (by rw [h]; decide)]; dsimp only; rw [if_pos h2]
theorem words_next {xs : List Int} {f a e b : Nat} {l : List (List Int)} (h : atL xs a 60 = false) (h2 : skipTo isTok xs a = e) (h3 : e ≠ a) (h4 : skipTo isBlank xs e = b) : wordsN xs (f + 1) a l = wordsN xs f b (l ++ [subL xs a e]) := by
  conv => lhs; unfold wordsN
  rw [if_neg (by rw [h]; decide)]; dsimp only; rw [h2, if_neg h3, h4]
theorem skip_until {p : Int → Bool} {xs : List Int} {a m : Nat} (ha : a ≤ m) (hm : m < xs.length) (hp : p (xs.getD m 0) = false) : skipTo p xs a ≤ m := by
  by_cases h : skipTo p xs a ≤ m
  · exact h
  · exfalso
    unfold skipTo at h
    have h1 : m - a < ((xs.drop a).takeWhile p).length := by omega
    have h2 : ((xs.drop a).takeWhile p)[m - a] ∈ (xs.drop a).takeWhile p := List.getElem_mem h1
    have h3 := List.all_eq_true.1 (List.all_takeWhile (p := p) (l := xs.drop a)) _ h2
    have h4 : xs.getD m 0 = ((xs.drop a).takeWhile p)[m - a] := by
      have e : xs.drop a = (xs.drop a).takeWhile p ++ (xs.drop a).dropWhile p := (List.takeWhile_append_dropWhile).symm
      have e1 : xs[m]? = (xs.drop a)[m - a]? := by rw [List.getElem?_drop]; congr 1; omega
      rw [List.getD_eq_getElem?_getD, e1]
      conv => lhs; rw [e]
      rw [List.getElem?_append_left h1, List.getElem?_eq_getElem h1]
      rfl
    rw [← h4, hp] at h3
    cases h3
end Go.Proofs.YthfonniieaiocaaGreatDoor
namespace Go.Proofs.YthfonniieaiocaaGreatDoor
open Go.RowKit

theorem join_snoc32 (l : List (List Int)) (t : List Int) : joinL [32] (l ++ [t]) = if l = [] then t else joinL [32] l ++ ([32] ++ t) := by
  by_cases h : l = []
  · subst h; rw [if_pos rfl, List.nil_append, joinL_one]
  · rw [if_neg h, joinL_snoc [32] l t h]
theorem join_len_snoc {l : List (List Int)} {t : List Int} {n : Nat} (h : (joinL [32] l).length ≤ n) : (joinL [32] (l ++ [t])).length ≤ n + t.length + 1 := by
  rw [join_snoc32]
  by_cases h0 : l = []
  · rw [if_pos h0]; omega
  · rw [if_neg h0, List.length_append, List.length_append, List.length_singleton]; omega
theorem num_nil2 {T : List Int} : (strOfNums T).toList = [] ↔ T = [] := by
  rw [toList_nil]
  constructor
  · intro h
    have := num_size T
    rw [h] at this
    exact List.eq_nil_of_length_eq_zero this.symm
  · rintro rfl; rfl
theorem str_append (a b : List Int) : strOfNums a ++ strOfNums b = strOfNums (a ++ b) := by
  unfold strOfNums
  simp [ByteArray.ext_iff]
set_option maxHeartbeats 2000000 in
theorem rdispw_any (s : ByteArray) (i m : Nat) (w : World) (him : i ≤ m) (hm : m < s.size) (hs : s.size ≤ 4000000) (h : (byteL s).getD i 0 ≠ 34) (h60 : (byteL s).getD m 0 = 60) (hf : ∀ j, i ≤ j → j < m → (byteL s).getD j 0 ≠ 60) :
    Calls Tryz.prog 88 #[.string s, .int .i64 (i : Nat), .int .i64 (m : Nat)] w fun e w' => e = .returned (dspV (wordD (wordsN (byteL s) ((byteL s).length + 1) i []))) ∧ Below w.heap.size w w' := by
  have HL := kd (byteL_len s)
  have HB := kd (byteL_by s)
  have d1 := fun w => idx_str s (i := i) (by omega) (z := (i : Int)) rfl w
  have q1 : ((byteL s).getD i 0 == 34) = false := by simpa using h
  have A60 := kd (show atL (byteL s) m 60 = true by unfold atL; rw [h60, HL.out]; simp [hm])
  have N60 := kd (fun j (h1 : i ≤ j) (h2 : j < m) => show atL (byteL s) j 60 = false by unfold atL; simp; intro _; simpa using hf j h1 h2)
  have TK := kd (fun (j : Nat) (w : World) => reftokend_any s (j : Int) w)
  have BK := kd (fun (n k : Nat) (w : World) (hn : n ≤ s.size) (hk : skipTo isBlank (byteL s) n = k) => refblanksN s (n : Int) n w k rfl hn hk hs)
  have T60 := kd (fun (j : Nat) (h : j ≤ m) => skip_until (p := isTok) (xs := byteL s) h (by rw [HL.out]; exact hm) (by rw [h60]; rfl))
  have B60 := kd (fun (j : Nat) (h : j ≤ m) => skip_until (p := isBlank) (xs := byteL s) h (by rw [HL.out]; exact hm) (by rw [h60]; rfl))
  obtain ⟨W, hW⟩ : ∃ W, wordsN (byteL s) ((byteL s).length + 1) i [] = W := ⟨_, rfl⟩
  rw [hW]
  have WE := kd hW
  rw [HL.out] at WE
  clear hW h60 hf h
  generalize (byteL s).getD i 0 = x0 at *
  go_enter Tryz.func88, Tryz.ntmps88
  go_wp2_with fail
  clear d1 q1
  go_loopw [1, 13] (fun v vn wr => ∃ (j f : Nat) (l : List (List Int)), i ≤ j ∧ j ≤ m ∧ v = .int .i64 j ∧ vn = .string (strOfNums (joinL [32] l)) ∧ s.size + 1 ≤ f + j ∧ Hid ((joinL [32] l).length ≤ 2 * j) ∧ Hid (joinL [32] l = [] ↔ l = []) ∧ Hid (wordsN (byteL s) f j l = W) ∧ Hid (Below w.heap.size w wr)) (fun v _ _ => m - (intOf v).toNat)
  case atStart => exact ⟨i, s.size + 1, [], Nat.le_refl _, him, rfl, rfl, by omega, kd (by simp [joinL_nil]), kd (by simp [joinL_nil]), WE, kd (Below.refl _ _)⟩
  case round =>
    clear WE
    obtain ⟨j, f, l, hij, hjm, rfl, rfl, hf, NL, NE, HW, BW0⟩ := hrel
    obtain ⟨g, rfl⟩ : ∃ g, f = g + 1 := ⟨f - 1, by omega⟩
    by_cases hlt : j < m
    · have hd : decide ((j : Int) < (m : Int)) = true := by simp; omega
      have AN := N60.out j hij hlt
      obtain ⟨k, hk⟩ : ∃ k, skipTo isTok (byteL s) j = k := ⟨_, rfl⟩
      have km : k ≤ m := hk ▸ T60.out j hjm
      have jk : j ≤ k := hk ▸ skip_ge _ _ _
      have TE := kd (TK.out j wr (by omega) (by omega))
      rw [show clip (j : Int) s.size = j by unfold clip; omega, hk] at TE
      by_cases hkj : k = j
      · have E := kd (HW.out.symm.trans (words_bad AN (hk.trans hkj)))
        subst hkj
        have e1 : ((k : Int) == (k : Int)) = true := by simp
        clear HW NL NE TK BK T60 B60 N60 A60 hk AN
        go_wp2_with (go_at_call 113; refine TE.out.mono ?_; rintro _ w1 ⟨rfl, hb1⟩; have B1 := kd (bthen BW0.out hb1))
        (try simp only [Exit.inBlock, Exit.then]); refine bodyPost_ret (results_t4 rfl _ _ _) rfl ?_
        exact ⟨by rw [E.out]; rfl, B1.out⟩
      · have e1 : ((k : Int) == (j : Int)) = false := by simp; omega
        obtain ⟨b, hb⟩ : ∃ b, skipTo isBlank (byteL s) k = b := ⟨_, rfl⟩
        have bm : b ≤ m := hb ▸ B60.out k km
        have kb : k ≤ b := hb ▸ skip_ge _ _ _
        have BE := kd (fun w => BK.out k b w (by omega) hb)
        have HW2 := kd ((words_next (f := g) (l := l) AN hk hkj hb).symm.trans HW.out)
        have ZL : byteL (s.extract j k) = subL (byteL s) j k := byteL_extract s j k
        have ES := kd (show s.extract j k = strOfNums (subL (byteL s) j k) by rw [← ZL, str_byteL])
        have SL := kd (show (subL (byteL s) j k).length = k - j from subL_len (by rw [HL.out]; omega))
        have NX := kd (join_len_snoc (t := subL (byteL s) j k) NL.out)
        have NE2 := kd (show joinL [32] (l ++ [subL (byteL s) j k]) = [] ↔ l ++ [subL (byteL s) j k] = [] from ⟨fun h => by
          exfalso
          rw [join_snoc32] at h
          have h2 := congrArg List.length h
          split at h2
          · rw [SL.out] at h2; simp at h2; omega
          · simp at h2, fun h => by simp at h⟩)
        have i1 : (j : Int) ≤ (k : Int) := by omega
        have i2 : (k : Int) ≤ (s.size : Int) := by omega
        clear HW TK BK T60 B60 N60 A60 hk hb AN ZL
        rw [SL.out] at NX
        have NS := kd (num_size (joinL [32] l))
        have TL := kd (num_nil2 (T := joinL [32] l))
        have JL := kd (show (joinL [32] l).length ≤ 2 * j from NL.out)
        have XS : (s.extract j k).size ≤ 4000000 := by rw [ES.out, num_size, SL.out]; omega
        by_cases hl : l = []
        · have t2 : (strOfNums (joinL [32] l)).toList = [] := TL.out.2 (NE.out.2 hl)
          have t3 : ((strOfNums (joinL [32] l)).toList == []) = true := by rw [t2]; rfl
          have t4 : ((strOfNums (joinL [32] l)).toList != []) = false := by rw [t2]; rfl
          have JS := kd (show strOfNums (joinL [32] l) ++ s.extract j k = strOfNums (joinL [32] (l ++ [subL (byteL s) j k])) by rw [ES.out, str_append, join_snoc32, if_pos hl, hl, joinL_nil]; rfl)
          have cc : ¬ (9223372036854775807 < (strOfNums (joinL [32] l)).size + (min k s.size - j)) := by rw [NS.out]; have := JL.out; omega
          replace hl := kd hl
          clear NE TL NS JL
          generalize strOfNums (joinL [32] l) = nm at *
          go_wp2_with (first
            | (go_at_call 113; refine TE.out.mono ?_; rintro _ w1 ⟨rfl, hb1⟩; have B1 := kd (bthen BW0.out hb1))
            | (go_at_call 85; refine (BE.out _).mono ?_; rintro _ w2 ⟨rfl, hb2⟩; have B2 := kd (bthen B1.out hb2)))
          go_roundw
          case rel => exact ⟨b, g, l ++ [subL (byteL s) j k], by omega, bm, by go_num, by rw [JS.out], by omega, kd (by have := NX.out; omega), NE2, HW2, B2⟩
          case measure => simp [intOf]; omega
        · have t2 : ¬ (strOfNums (joinL [32] l)).toList = [] := fun h => hl (NE.out.1 (TL.out.1 h))
          have t3 : ((strOfNums (joinL [32] l)).toList == []) = false := by simpa using t2
          have t4 : ((strOfNums (joinL [32] l)).toList != []) = true := by simpa using t2
          have JS := kd (show strOfNums (joinL [32] l) ++ ⟨#[32]⟩ ++ s.extract j k = strOfNums (joinL [32] (l ++ [subL (byteL s) j k])) by rw [ES.out, show (⟨#[32]⟩ : ByteArray) = strOfNums [32] by rfl, str_append, str_append, join_snoc32, if_neg hl, List.append_assoc])
          have cc : ¬ (9223372036854775807 < (strOfNums (joinL [32] l)).size + 1) := by rw [NS.out]; have := JL.out; omega
          have cd : ¬ (9223372036854775807 < (strOfNums (joinL [32] l)).size + 1 + (min k s.size - j)) := by rw [NS.out]; have := JL.out; omega
          replace hl := kd hl
          clear NE TL NS JL
          generalize strOfNums (joinL [32] l) = nm at *
          go_wp2_with (first
            | (go_at_call 113; refine TE.out.mono ?_; rintro _ w1 ⟨rfl, hb1⟩; have B1 := kd (bthen BW0.out hb1))
            | (go_at_call 85; refine (BE.out _).mono ?_; rintro _ w2 ⟨rfl, hb2⟩; have B2 := kd (bthen B1.out hb2)))
          go_roundw
          case rel => exact ⟨b, g, l ++ [subL (byteL s) j k], by omega, bm, by go_num, by rw [JS.out], by omega, kd (by have := NX.out; omega), NE2, HW2, B2⟩
          case measure => simp [intOf]; omega
    · obtain rfl : j = m := by omega
      have hd : decide ((j : Int) < (j : Int)) = false := by simp
      have E := kd (HW.out.symm.trans (words_end A60.out))
      clear HW NL NE TK BK T60 B60 N60 A60
      go_wp2_with fail
      (try simp only [Exit.inBlock, Exit.then]); refine bodyPost_ret (results_t4 rfl _ _ _) rfl ?_
      exact ⟨by rw [E.out]; rfl, BW0.out⟩
end Go.Proofs.YthfonniieaiocaaGreatDoor
namespace Go.Proofs.YthfonniieaiocaaGreatDoor
open Go.RowKit

def valQ (xs : List Int) (a : Nat) : List Int × Nat × Int :=
  if atL xs a 34 = true then unq xs (a : Nat)
  else if atL xs a 91 = true then
    match hostL (subL xs a (min (untilL xs a [93] + 1) xs.length)) with
    | none => ([], a, 5)
    | some h => (h, untilL xs a [93] + 1, 0)
  else if skipTo isTok xs a = a then ([], a, 5) else (subL xs a (skipTo isTok xs a), skipTo isTok xs a, 0)
def valV (v : List Int × Nat × Int) : Value := .tuple #[.string (strOfNums v.1), .int .i64 (v.2.1 : Nat), .int .u8 v.2.2]
theorem atL_eq {xs : List Int} {a n : Nat} {c : Int} (hn : xs.length = n) : atL xs a c = (decide (a < n) && xs.getD a 0 == c) := by unfold atL; rw [hn]
theorem val_quote {xs : List Int} {a : Nat} (h : atL xs a 34 = true) : valQ xs a = unq xs (a : Nat) := by unfold valQ; rw [if_pos h]
theorem val_brack {xs : List Int} {a : Nat} (h : atL xs a 34 = false) (h2 : atL xs a 91 = true) : valQ xs a = match hostL (subL xs a (min (untilL xs a [93] + 1) xs.length)) with
    | none => ([], a, 5)
    | some h => (h, untilL xs a [93] + 1, 0) := by unfold valQ; rw [if_neg (by rw [h]; decide), if_pos h2]
theorem val_tok {xs : List Int} {a e : Nat} (h : atL xs a 34 = false) (h2 : atL xs a 91 = false) (he : skipTo isTok xs a = e) : valQ xs a = if e = a then ([], a, 5) else (subL xs a e, e, 0) := by
  unfold valQ; rw [if_neg (by rw [h]; decide), if_neg (by rw [h2]; decide), he]
set_option maxHeartbeats 2000000 in
theorem rvalue_any (s : ByteArray) (i : Nat) (w : World) (hi : i ≤ s.size) (hs : s.size ≤ 4000000) :
    Calls Tryz.prog 114 #[.string s, .int .i64 (i : Nat)] w fun e w' => e = .returned (valV (valQ (byteL s) i)) ∧ Below w.heap.size w w' := by
  have HL := kd (byteL_len s)
  by_cases hlt : i < s.size
  case neg =>
    obtain rfl : i = s.size := by omega
    have a1 : atL (byteL s) s.size 34 = false := by rw [atL_eq HL.out]; simp
    have a2 : atL (byteL s) s.size 91 = false := by rw [atL_eq HL.out]; simp
    have a3 : skipTo isTok (byteL s) s.size = s.size := skip_end (by rw [HL.out]; exact Nat.le_refl _)
    have E := kd ((val_tok a1 a2 a3).trans (if_pos rfl))
    have TK := kd (reftokend_any s (s.size : Int) w (by omega) (by omega))
    rw [show clip (s.size : Int) s.size = s.size by unfold clip; omega, a3] at TK
    have hd : decide ((s.size : Int) < (s.size : Int)) = false := by simp
    have e1 : ((s.size : Int) == (s.size : Int)) = true := by simp
    clear a1 a2 a3
    generalize valQ (byteL s) s.size = R at *
    go_enter Tryz.func114, Tryz.ntmps114
    go_wp2_with (go_at_call 113; refine TK.out.mono ?_; rintro _ w1 ⟨rfl, hb1⟩; have B1 := kd hb1)
    go_ret3
    exact ⟨by rw [E.out]; rfl, B1.out⟩
  have hd : decide ((i : Int) < (s.size : Int)) = true := by simp; omega
  have d1 := fun w => idx_str s (i := i) hlt (z := (i : Int)) rfl w
  have AT := kd (fun c => show atL (byteL s) i c = ((byteL s).getD i 0 == c) by rw [atL_eq HL.out]; simp [hlt])
  by_cases h34 : (byteL s).getD i 0 = 34
  · have a1 : atL (byteL s) i 34 = true := by rw [AT.out, h34]; rfl
    obtain ⟨U, hU⟩ : ∃ U, unq (byteL s) (i : Nat) = U := ⟨_, rfl⟩
    have UQ := kd (refunquote_b s i U w hU hi hs)
    have E := kd ((val_quote a1).trans hU)
    rw [h34] at d1
    clear a1 hU AT h34
    generalize valQ (byteL s) i = R at *
    go_enter Tryz.func114, Tryz.ntmps114
    go_wp2_with (go_at_call 149; refine UQ.out.mono ?_; rintro _ w1 ⟨rfl, hb1⟩; have B1 := kd hb1)
    go_ret3
    exact ⟨by rw [E.out]; rfl, B1.out⟩
  have a1 : atL (byteL s) i 34 = false := by rw [AT.out]; simpa using h34
  have q34 : ((byteL s).getD i 0 == 34) = false := by simpa using h34
  by_cases h91 : (byteL s).getD i 0 = 91
  · have a2 : atL (byteL s) i 91 = true := by rw [AT.out, h91]; rfl
    have VB := kd (val_brack a1 a2)
    rw [h91] at d1 q34
    have UY := kd (fun (j : Nat) (h : j < s.size) (hx : (byteL s).getD j 0 ≠ 93) => show untilL (byteL s) j [93] = untilL (byteL s) (j + 1) [93] from skip_yes (by rw [HL.out]; exact h) (by simpa using hx))
    have UN := kd (fun (j : Nat) (h : j < s.size) (hx : (byteL s).getD j 0 = 93) => show untilL (byteL s) j [93] = j from skip_no (by rw [HL.out]; exact h) (by rw [hx]; rfl))
    have UE := kd (show untilL (byteL s) s.size [93] = s.size from skip_end (by rw [HL.out]; exact Nat.le_refl _))
    have UL := until_le (xs := byteL s) (a := i) (st := [93]) (by rw [HL.out]; exact hi)
    rw [HL.out] at UL VB
    obtain ⟨k, hk⟩ : ∃ k, untilL (byteL s) i [93] = k := ⟨_, rfl⟩
    obtain ⟨m, hm⟩ : ∃ m, min (k + 1) s.size = m := ⟨_, rfl⟩
    rw [hk, hm] at VB
    rw [hk] at UL
    obtain ⟨ul1, ul2⟩ := UL
    have HK := kd hk
    have i1 : (i : Int) ≤ (m : Int) := by omega
    have i2 : (m : Int) ≤ (s.size : Int) := by omega
    have mz : min ((k : Int) + 1) (s.size : Int) = (m : Int) := by omega
    have ZL : byteL (s.extract i m) = subL (byteL s) i m := byteL_extract s i m
    have ZS : (s.extract i m).size ≤ 4000000 := by rw [← byteL_len, ZL]; have := (subL_sub (byteL s) i m).length_le; rw [byteL_len] at this; omega
    have HO := kd (fun w => rhost_any (s.extract i m) w ZS)
    rw [ZL] at HO
    clear ZL ZS a1 a2 h34 h91 AT hk hm
    generalize valQ (byteL s) i = R at *
    generalize hostL (subL (byteL s) i m) = H at *
    go_enter Tryz.func114, Tryz.ntmps114
    go_wp2_with fail
    clear hd d1 q34
    go_loopw [7] (fun v wr => ∃ j : Nat, i ≤ j ∧ j ≤ s.size ∧ v = .int .i64 j ∧ w = wr ∧ Hid (untilL (byteL s) j [93] = k)) (fun v _ => s.size - (intOf v).toNat)
    case atStart => exact ⟨i, Nat.le_refl _, hi, rfl, rfl, HK⟩
    case round =>
      clear HK
      obtain ⟨j, hij, hj, rfl, rfl, HU⟩ := hrel
      have MORE := kd (fun (h : j < s.size) (hx : (byteL s).getD j 0 ≠ 93) => (UY.out j h hx).symm.trans HU.out)
      have STOP := kd (show (j < s.size → (byteL s).getD j 0 = 93) → j = k from fun h => by
        by_cases hjs : j < s.size
        · rw [← HU.out, UN.out j hjs (h hjs)]
        · obtain rfl : j = s.size := by omega
          rw [← HU.out, UE.out])
      clear UY UN UE HU
      have TAIL : True := trivial
      by_cases hlt2 : j < s.size
      · have hd2 : decide ((j : Int) < (s.size : Int)) = true := by simp; omega
        have d2 := fun w => idx_str s (i := j) hlt2 (z := (j : Int)) rfl w
        by_cases hx : (byteL s).getD j 0 = 93
        · obtain rfl := STOP.out (fun _ => hx)
          rw [hx] at d2
          clear MORE STOP hx
          cases H with
          | none =>
            go_wp2_with (go_at_call 21; refine (HO.out _).mono ?_; unfold hostV; rintro _ w1 ⟨rfl, hb1⟩; have B1 := kd hb1)
            go_ret3
            exact ⟨by rw [VB.out]; rfl, B1.out⟩
          | some h =>
            go_wp2_with (go_at_call 21; refine (HO.out _).mono ?_; unfold hostV; rintro _ w1 ⟨rfl, hb1⟩; have B1 := kd hb1)
            go_ret3
            exact ⟨by rw [VB.out]; rfl, B1.out⟩
        · have e1 : ((byteL s).getD j 0 != 93) = true := by simpa using hx
          have M2 := kd (MORE.out hlt2 hx)
          clear MORE STOP hx
          generalize (byteL s).getD j 0 = x at *
          go_wp2_with fail
          go_roundw
          case rel => exact ⟨j + 1, by omega, by omega, by go_num, by first | rfl | trivial, M2⟩
          case measure => simp [intOf]; omega
      · have hd2 : decide ((j : Int) < (s.size : Int)) = false := by simp; omega
        obtain rfl := STOP.out (fun h => absurd h hlt2)
        clear MORE STOP
        cases H with
        | none =>
          go_wp2_with (go_at_call 21; refine (HO.out _).mono ?_; unfold hostV; rintro _ w1 ⟨rfl, hb1⟩; have B1 := kd hb1)
          go_ret3
          exact ⟨by rw [VB.out]; rfl, B1.out⟩
        | some h =>
          go_wp2_with (go_at_call 21; refine (HO.out _).mono ?_; unfold hostV; rintro _ w1 ⟨rfl, hb1⟩; have B1 := kd hb1)
          go_ret3
          exact ⟨by rw [VB.out]; rfl, B1.out⟩
  · have a2 : atL (byteL s) i 91 = false := by rw [AT.out]; simpa using h91
    have q91 : ((byteL s).getD i 0 == 91) = false := by simpa using h91
    obtain ⟨e, he⟩ : ∃ e, skipTo isTok (byteL s) i = e := ⟨_, rfl⟩
    have VT := kd (val_tok a1 a2 he)
    have TK := kd (reftokend_any s (i : Int) w (by omega) (by omega))
    rw [show clip (i : Int) s.size = i by unfold clip; omega, he] at TK
    have ei : i ≤ e := he ▸ skip_ge _ _ _
    have es : e ≤ s.size := by rw [← he, ← HL.out]; exact skip_le (by rw [HL.out]; exact hi)
    have ES := kd (show s.extract i e = strOfNums (subL (byteL s) i e) by rw [← show byteL (s.extract i e) = subL (byteL s) i e from byteL_extract s i e, str_byteL])
    clear a1 a2 h34 h91 AT he
    generalize (byteL s).getD i 0 = x at *
    generalize valQ (byteL s) i = R at *
    by_cases hei : e = i
    · subst hei
      have e1 : ((e : Int) == (e : Int)) = true := by simp
      rw [if_pos rfl] at VT
      go_enter Tryz.func114, Tryz.ntmps114
      go_wp2_with (go_at_call 113; refine TK.out.mono ?_; rintro _ w1 ⟨rfl, hb1⟩; have B1 := kd hb1)
      go_ret3
      exact ⟨by rw [VT.out]; rfl, B1.out⟩
    · have e1 : ((e : Int) == (i : Int)) = false := by simp; omega
      have i1 : (i : Int) ≤ (e : Int) := by omega
      have i2 : (e : Int) ≤ (s.size : Int) := by omega
      rw [if_neg hei] at VT
      go_enter Tryz.func114, Tryz.ntmps114
      go_wp2_with (go_at_call 113; refine TK.out.mono ?_; rintro _ w1 ⟨rfl, hb1⟩; have B1 := kd hb1)
      go_ret3
      exact ⟨by rw [VT.out, ES.out]; rfl, B1.out⟩
end Go.Proofs.YthfonniieaiocaaGreatDoor
