/- Contract: address.Params. Plain: what an address holds. -/
import Derived.Test.YthfonniieaiocaaGreatDoorUt
import Derived.Test.YthfonniieaiocaaGreatDoorVe
set_option linter.unusedVariables false
set_option linter.unusedSimpArgs false
namespace Go.Proofs.YthfonniieaiocaaGreatDoor
open Go.RowKit

theorem parsN_end {X : List Int} {f a a0 : Nat} {l : List Pm} (h : skipTo isBlank X a = a0) (h2 : X.length ≤ a0) : parsN X (f + 1) a l = .ok l := by
  rw [parsN_eq h rfl, if_pos h2]
theorem parsN_sep {X : List Int} {f a a0 : Nat} {l : List Pm} (h : skipTo isBlank X a = a0) (h2 : ¬ X.length ≤ a0) (h3 : X.getD a0 0 ≠ 59) : parsN X (f + 1) a l = .error (a0, 5) := by
  rw [parsN_eq h rfl, if_neg h2, if_pos h3]
theorem parsN_go {X : List Int} {f a a0 a1 : Nat} {l : List Pm} (h : skipTo isBlank X a = a0) (h2 : ¬ X.length ≤ a0) (h3 : X.getD a0 0 = 59) (h4 : skipTo isBlank X (a0 + 1) = a1) :
    parsN X (f + 1) a l = match listedH X a1 with
      | .error e => .error e
      | .ok (p, a2) => if roomL l p.n ≠ 0 then .error (a1, roomL l p.n) else parsN X f a2 (l ++ [p]) := by
  rw [parsN_eq h h4, if_neg h2, if_neg (fun h => h h3)]; rfl
def PRH (w : World) (cb : Nat) (s : ByteArray) (X : List Int) (R : Except (Nat × Int) (List Pm)) (v : Value) (wr : World) : Prop := ∃ (a f n c : Nat) (A : Option Addr) (l : List Pm), a ≤ s.size ∧ n ≤ 16 ∧ Hid (n = l.length) ∧ v = .slice A n c ∧ s.size + 1 ≤ f + a ∧ Hid (R = parsN X f a l ∧ ∀ p ∈ l, By p.n) ∧ Hid (PS w cb s a l v wr)
set_option maxRecDepth 100000 in
set_option maxHeartbeats 2000000 in
theorem paramsh_any (s : ByteArray) (w : World) (hs : s.size ≤ 4000000) (hG : GM w) (hP : PT w) : Calls Tryz.prog 39 #[.string s] w (ParP w (parsL (byteL s))) := by
  have HL := Lib.hid (byteL_len s)
  have HBY := Lib.hid (byteL_by s)
  have PE := Lib.hid (show parsL (byteL s) = parsN (byteL s) (s.size + 1) 0 [] by unfold parsL; rw [byteL_len])
  have LIS := Lib.hid (fun w2 b a h ha hb hge => listedh_any w w2 b a s h ha hs hb hge hG hP)
  have BLK := Lib.hid (fun w b a e h1 h2 (h3 : skipTo isBlank (byteL s) a = e) => show Calls Tryz.prog 80 #[.pointer (some ⟨b, 0, none⟩)] w fun r w' => r = .returned (.tuple #[]) ∧ CG w b s e w' by subst h3; exact curblanks_any w b a s h1 h2 hs)
  have SEE := Lib.hid (fun w b a c h1 => cursees_any w b a c s h1)
  have SKL := Lib.hid (fun a (h : a ≤ s.size) => show skipTo isBlank (byteL s) a ≤ s.size from by rw [← byteL_len s]; exact skip_le (by rw [byteL_len]; exact h))
  have SKG := Lib.hid (fun a => skip_ge isBlank (byteL s) a)
  have BAD := Lib.hid (fun w' z k h hk hb => ParP.bad (w := w) (w' := w') (R := parsL (byteL s)) (z := z) (k := k) h hk hb)
  have GOOD := Lib.hid (fun w' l v h hv hl => ParP.good (w := w) (w' := w') (R := parsL (byteL s)) (l := l) (v := v) h hv hl)
  generalize ParP w (parsL (byteL s)) = PP at *
  generalize parsL (byteL s) = R at *
  generalize byteL s = X at *
  clear hG hP
  have P0 := Lib.hid (show PS w w.heap.size s 0 [] (.slice none 0 0) (w.alloc (.cells #[.string s, .int .i64 0] 84)) from ⟨Row.new w 84 [.string s, .int .i64 0], Nat.le_refl _, (VX.nil _ _ w).step ((Below.refl w.heap.size w).alloc (Nat.le_refl _) _)⟩)
  go_enter Tryz.func39, Tryz.ntmps39
  go_wp2_with fail
  go_loopw [6] (fun v wr => PRH w w.heap.size s X R v wr) (fun v _ => 17 - lenOf v)
  case atStart => exact ⟨0, s.size + 1, 0, 0, none, [], Nat.zero_le _, Nat.zero_le _, Lib.hid rfl, rfl, by omega, Lib.hid ⟨PE.out, fun p hp => by cases hp⟩, P0⟩
  case round =>
    clear P0 PE
    obtain ⟨a, f, n, c, A, l, ha, hl16, hn, rfl, hf, HK, HP⟩ := hrel
    obtain ⟨f, rfl⟩ : ∃ g, f = g + 1 := ⟨f - 1, by omega⟩
    obtain ⟨a0, ha0⟩ : ∃ k, skipTo isBlank X a = k := ⟨_, rfl⟩
    obtain ⟨a1, ha1⟩ : ∃ k, skipTo isBlank X (a0 + 1) = k := ⟨_, rfl⟩
    have aa0 : a ≤ a0 := by rw [← ha0]; exact SKG.out a
    have a0s : a0 ≤ s.size := by rw [← ha0]; exact SKL.out a ha
    have A01 := Lib.hid (show a0 + 1 ≤ a1 by rw [← ha1]; exact SKG.out _)
    have A1S := Lib.hid (fun (h : a0 < s.size) => show a1 ≤ s.size by rw [← ha1]; exact SKL.out _ h)
    have EN := Lib.hid (fun h => parsN_end (f := f) (l := l) ha0 h)
    have ES := Lib.hid (fun h h2 => parsN_sep (f := f) (l := l) ha0 h h2)
    have EG := Lib.hid (fun h h2 => parsN_go (f := f) (l := l) ha0 h h2 ha1)
    have HA0 := Lib.hid ha0; have HA1 := Lib.hid ha1
    clear ha0 ha1
    go_wp2_with fail
    refine (BLK.out wr w.heap.size a a0 HP.out.c ha HA0.out).mono ?_
    rintro e w1 ⟨rfl, hc⟩
    have P1 := Lib.hid (HP.out.cur hc)
    clear hc HP
    go_wp2_with fail
    refine (curended_any w1 w.heap.size a0 s P1.out.c).mono ?_
    rintro e w2 ⟨rfl, q, rfl⟩
    have P2 := Lib.hid (P1.out.call (below_drewN _ q))
    clear P1
    generalize w1.drewN q = w2 at *
    by_cases hE : s.size ≤ a0
    · rw [decide_eq_true hE]
      have E := Lib.hid (HK.out.1.trans (EN.out (by rw [HL.out]; exact hE)))
      clear EN ES EG
      go_wp2_with fail
      go_ret3
      exact GOOD.out _ _ _ E.out P2.out.o (by rw [← hn.out]; exact hl16)
    · rw [decide_eq_false hE]
      have hE2 : ¬ X.length ≤ a0 := by rw [HL.out]; exact hE
      have a0l : a0 < s.size := by omega
      have a1s := A1S.out a0l
      go_wp2_with fail
      refine (SEE.out w2 w.heap.size a0 59 P2.out.c).mono ?_
      rintro e w3 ⟨rfl, q3, rfl⟩
      have P3 := Lib.hid (P2.out.call (below_drewN _ q3))
      clear P2
      generalize w2.drewN q3 = w3 at *
      by_cases hS : X.getD a0 0 = 59
      case neg =>
        rw [seesB_no (fun h => hS h.2)]
        have E := Lib.hid (HK.out.1.trans (ES.out hE2 hS))
        clear EN ES EG
        have k1 := P3.out.c.cell 1
        simp only [List.getElem?_cons_succ, List.getElem?_cons_zero] at k1
        go_wp2_with fail
        go_quiet (fail)
        go_wp2_with fail
        go_ret3
        exact BAD.out _ _ _ E.out (by decide) (P3.out.o.drewN _).bw
      case pos =>
        rw [seesB_yes ⟨by omega, hS⟩]
        have EG2 := Lib.hid (HK.out.1.trans (EG.out hE2 hS))
        have k1 := P3.out.c.cell 1
        simp only [List.getElem?_cons_succ, List.getElem?_cons_zero] at k1
        have f1 := P3.out.c.frozen 1
        have P4 := Lib.hid (P3.out.cset (a0 + 1) (z := (a0 : Int) + 1) (by push_cast; rfl))
        clear EN ES EG hS hE hE2
        go_wp2_with fail
        clear k1 f1 P3
        generalize w3.setCell ⟨w.heap.size, 1, none⟩ (.int .i64 ((a0 : Int) + 1)) = w4 at *
        refine (BLK.out w4 w.heap.size (a0 + 1) a1 P4.out.c a0l HA1.out).mono ?_
        rintro e w5 ⟨rfl, hc⟩
        have P5 := Lib.hid (P4.out.cur hc)
        clear hc P4
        have k1 := P5.out.c.cell 1
        simp only [List.getElem?_cons_succ, List.getElem?_cons_zero] at k1
        go_wp2_with fail
        clear k1
        have LQ := Lib.hid (LIS.out w5 w.heap.size a1 P5.out.c a1s P5.out.o.bw (Nat.le_refl _))
        have LOK := Lib.hid (fun p a' h => listedH_ok (X := X) (a := a1) (p := p) (a' := a') HBY.out (by rw [HL.out]; exact a1s) h)
        have LER := Lib.hid (fun z k h => (listedH_err (X := X) (a := a1) (z := z) (k := k) (by rw [HL.out]; exact a1s) h).1)
        refine LQ.out.mono ?_
        clear LQ
        intro e w6 hq
        have HQ := Lib.hid hq
        clear hq
        obtain ⟨L, hL⟩ : ∃ L, listedH X a1 = L := ⟨_, rfl⟩
        rw [hL] at EG2 HQ LOK LER
        clear hL
        cases L with
        | error q =>
          obtain ⟨z, k⟩ := q
          obtain ⟨rfl, a', hc⟩ := HQ.out
          have P6 := Lib.hid (P5.out.cur hc)
          have hk := LER.out z k rfl
          have hkb : (k == 0) = false := by simp [hk]
          have hkn : (k != 0) = true := by simp [hk]
          have BN := Lib.hid ((Below.refl w6.heap.size w6).alloc (Nat.le_refl _) (.cells #[.string ⟨#[]⟩, .string ⟨#[]⟩, .bool false] 56))
          clear hc HQ LOK LER
          go_wp2_with fail
          go_ret3
          exact BAD.out _ _ _ EG2.out hk (P6.out.call BN.out).o.bw
        | ok q =>
          obtain ⟨p, a2⟩ := q
          obtain ⟨rfl, hc⟩ := HQ.out
          have P6 := Lib.hid (P5.out.cur hc)
          obtain ⟨pn, pv, ph⟩ := p
          have OK := Lib.hid (LOK.out _ _ rfl)
          dsimp only at OK
          have EG3 := Lib.hid (show R = if roomL l pn ≠ 0 then .error (a1, roomL l pn) else parsN X f a2 (l ++ [⟨pn, pv, ph⟩]) from EG2.out)
          have BN := Lib.hid ((Below.refl w6.heap.size w6).alloc (Nat.le_refl _) (.cells #[.string (strOfNums pn), .string (strOfNums pv), .bool ph] 56))
          have P7 := Lib.hid (P6.out.call BN.out)
          have RP := Lib.hid (Row.new w6 56 [.string (strOfNums pn), .string (strOfNums pv), .bool ph])
          clear hc HQ LOK LER EG2 P6 BN P5
          dsimp only
          go_upto_region 12 with (fail)
          generalize w6.alloc (.cells #[.string (strOfNums pn), .string (strOfNums pv), .bool ph] 56) = w7 at *
          generalize w6.heap.size = pb at *
          have k0 := RP.out.cell 0
          simp only [List.getElem?_cons_succ, List.getElem?_cons_zero] at k0
          go_wp2_with fail
          clear k0
          obtain ⟨A', c', hv, _, hR⟩ := pms_rds P7.out.o
          injection hv with hv1 hv2 hv3
          subst hv1; subst hv3
          refine (room_any A n c l pn w7 hR hn.out.symm (by omega) HK.out.2 OK.out.1).mono ?_
          rintro e w8 ⟨rfl, hb⟩
          have P8 := Lib.hid (P7.out.call hb)
          have RP8 := Lib.hid (RP.out.below hb)
          clear hb P7 RP hR hv2
          by_cases hr : roomL l pn = 0
          · have E := Lib.hid (EG3.out.trans (if_neg (fun h => h hr)))
            have l15 : n < 16 := by rw [hn.out]; exact roomL_zero hr
            rw [hr]
            clear EG3 hr
            go_wp2_with (first
              | (with_reducible refine wpList_loadR rfl 56 (.tmp 8) rfl RP8.out rfl Tryz.underlying56 rfl (sizePm _ _ _) ?_)
              | (with_reducible refine wpList_pushC rfl (.tmp 44) (.tmp 46) rfl rfl P8.out ⟨pn, pv, ph⟩ rfl (by have := hn.out; omega) ?_))
            intro v' w9 P9
            obtain ⟨A9, c9, hv9, _, _⟩ := pms_rds P9.out.o
            subst hv9
            go_wp2_with fail
            go_roundw
            case rel =>
              have h5 := OK.out.2.2.2.2
              have hln : (l ++ [(⟨pn, pv, ph⟩ : Pm)]).length = n + 1 := by rw [hn.out]; simp
              exact ⟨a2, f, _, c9, A9, l ++ [⟨pn, pv, ph⟩], by have := HL.out; omega, by omega, Lib.hid rfl, rfl, by have := A01.out; omega, Lib.hid ⟨E.out, fun p hp => by
                rcases List.mem_append.1 hp with h | h
                · exact HK.out.2 p h
                · rw [List.mem_singleton] at h
                  subst h
                  exact OK.out.1⟩, P9⟩
            case measure =>
              have hln : (l ++ [(⟨pn, pv, ph⟩ : Pm)]).length = n + 1 := by rw [hn.out]; simp
              simp only [lenOf]
              omega
          · have E := Lib.hid (EG3.out.trans (if_pos hr))
            have hkn : (roomL l pn != 0) = true := by simp [hr]
            go_wp2_with fail
            go_ret3
            exact BAD.out _ _ _ E.out hr P8.out.o.bw
end Go.Proofs.YthfonniieaiocaaGreatDoor
namespace Go.Proofs.YthfonniieaiocaaGreatDoor
open Go.RowKit

theorem join32_len {l : List (List Int)} {k : Nat} (h : ∀ p ∈ l, p.length ≤ k) : (joinL [32] l).length ≤ (k + 1) * l.length := by
  induction l with
  | nil => simp [joinL_nil]
  | cons p r ih =>
    have h1 := h p (by simp)
    have h2 := ih fun q hq => h q (List.mem_cons_of_mem _ hq)
    cases r with
    | nil => rw [joinL_one, List.length_singleton]; omega
    | cons q r =>
      rw [joinL_cons, List.length_append, List.length_append, List.length_cons (a := p), Nat.mul_succ]
      have : ([32] : List Int).length = 1 := rfl
      omega
theorem wordsN_go {xs : List Int} {f a e : Nat} {l : List (List Int)} (h : atL xs a 60 = false) (he : skipTo isTok xs a = e) (hne : e ≠ a) : wordsN xs (f + 1) a l = wordsN xs f (skipTo isBlank xs e) (l ++ [subL xs a e]) := by
  subst he
  conv => lhs; unfold wordsN
  rw [if_neg (by rw [h]; decide)]
  dsimp only
  rw [if_neg hne]
theorem wordsN_bad {xs : List Int} {f a : Nat} {l : List (List Int)} (h : atL xs a 60 = false) (he : skipTo isTok xs a = a) : wordsN xs (f + 1) a l = .error a := by
  conv => lhs; unfold wordsN
  rw [if_neg (by rw [h]; decide)]
  dsimp only
  rw [if_pos he]
theorem words_ok {xs : List Int} (hx : By xs) : ∀ (f a : Nat) (l : List (List Int)), a ≤ xs.length → (∀ p ∈ l, By p ∧ p.length ≤ xs.length) → l.length ≤ a → xs.length + 1 ≤ f + a → match wordsN xs f a l with
    | .ok r => (∀ p ∈ r.1, By p ∧ p.length ≤ xs.length) ∧ r.1.length ≤ r.2 ∧ r.2 ≤ xs.length ∧ atL xs r.2 60 = true
    | .error e => e ≤ xs.length
  | 0, a, l, ha, hl, hn, hf => by omega
  | f + 1, a, l, ha, hl, hn, hf => by
    by_cases h : atL xs a 60 = true
    · rw [wordsN_at h]; exact ⟨hl, hn, ha, h⟩
    have h0 : atL xs a 60 = false := by simpa using h
    by_cases he : skipTo isTok xs a = a
    · rw [wordsN_bad h0 he]; exact ha
    · have e1 : a ≤ skipTo isTok xs a := skip_ge _ _ _
      have e2 : skipTo isTok xs a ≤ xs.length := skip_le ha
      have e3 : skipTo isTok xs a ≤ skipTo isBlank xs (skipTo isTok xs a) := skip_ge _ _ _
      rw [wordsN_go h0 rfl he]
      refine words_ok hx f _ _ (skip_le e2) (fun p hp => ?_) (by rw [List.length_append, List.length_singleton]; omega) (by omega)
      rcases List.mem_append.1 hp with hp | hp
      · exact hl p hp
      · rw [List.mem_singleton] at hp
        subst hp
        exact ⟨hx.sub (subL_sub _ _ _), (subL_sub xs _ _).length_le⟩
theorem name_ok {xs : List Int} (hx : By xs) (hl : xs.length ≤ 1024) : match nameL xs with
    | .ok r => By r.1 ∧ r.1.length ≤ 1100000 ∧ r.2 ≤ xs.length
    | .error e => e.1 ≤ xs.length ∧ e.2 ≠ 0 := by
  obtain ⟨a, ha⟩ : ∃ a, skipTo isBlank xs 0 = a := ⟨_, rfl⟩
  obtain ⟨b, hb⟩ : ∃ b, skipTo isBlank xs (unq xs (a : Nat)).2.1 = b := ⟨_, rfl⟩
  have as_ : a ≤ xs.length := by rw [← ha]; exact skip_le (Nat.zero_le _)
  have us := unq_pos as_
  have bs : b ≤ xs.length := by rw [← hb]; exact skip_le us.1
  obtain ⟨q4, q5⟩ := unq_mem xs (a : Nat)
  rw [nameL_eq ha hb]
  by_cases h1 : atL xs a 34 = true
  · rw [if_pos h1]
    by_cases h2 : (unq xs (a : Nat)).2.2 ≠ 0
    · rw [if_pos h2]; exact ⟨us.1, h2⟩
    · rw [if_neg h2]
      by_cases h3 : atL xs b 60 = false
      · rw [if_pos h3]; exact ⟨bs, show (5 : Int) ≠ 0 by decide⟩
      · rw [if_neg h3]; exact ⟨fun x hx2 => hx x (q4 x hx2), Nat.le_trans q5 (by omega), bs⟩
  · rw [if_neg h1]
    by_cases h2 : xs.contains 60 = true
    · rw [if_pos h2]
      have hw := words_ok hx (xs.length + 1) a [] as_ (fun p hp => by cases hp) (Nat.zero_le _) (by omega)
      cases hr : wordsN xs (xs.length + 1) a [] with
      | error e => rw [hr] at hw; exact ⟨hw, show (5 : Int) ≠ 0 by decide⟩
      | ok r =>
        rw [hr] at hw
        obtain ⟨l, c⟩ := r
        obtain ⟨w1, w2, w3, _⟩ := hw
        dsimp only at w1 w2 w3 ⊢
        refine ⟨joinL_by2 (fun x hx => by rw [List.mem_singleton] at hx; subst hx; decide) fun p hp => (w1 p hp).1, ?_, w3⟩
        have := join32_len (k := 1024) fun p hp => Nat.le_trans (w1 p hp).2 hl
        have : (1024 + 1) * l.length ≤ 1025 * 1024 := Nat.mul_le_mul (Nat.le_refl _) (by omega)
        omega
    · rw [if_neg h2]; exact ⟨(fun x hx => by cases hx), Nat.zero_le _, as_⟩
/-- The next '<' from an offset on. -/
theorem has_60 {xs : List Int} {a : Nat} (ha : skipTo isBlank xs 0 = a) : xs.contains 60 = decide (untilL xs a [60] < xs.length) := by
  have hs : xs = xs.take a ++ xs.drop a := (List.take_append_drop a xs).symm
  have ht : xs.take a = xs.takeWhile isBlank := by
    have h0 : a = (xs.takeWhile isBlank).length := by
      rw [← ha]; unfold skipTo; rw [List.drop_zero, Nat.zero_add]
    rw [h0]
    exact (List.prefix_iff_eq_take.1 (List.takeWhile_prefix isBlank)).symm
  have hno : (60 : Int) ∉ xs.take a := fun hm => by
    rw [ht] at hm
    have : (xs.takeWhile isBlank).all isBlank = true := List.all_takeWhile
    have := List.all_eq_true.1 this 60 hm
    cases this
  have as_ : a ≤ xs.length := by rw [← ha]; exact skip_le (Nat.zero_le _)
  rw [Bool.eq_iff_iff, decide_eq_true_iff, List.contains_iff_mem]
  have hl : (xs.drop a).length = xs.length - a := List.length_drop
  have hu : untilL xs a [60] < xs.length ↔ ((xs.drop a).takeWhile fun c => !([60] : List Int).contains c).length < (xs.drop a).length := by
    unfold untilL skipTo; omega
  rw [hu]
  constructor
  · intro hm
    rw [hs] at hm
    rcases List.mem_append.1 hm with hm | hm
    · exact absurd hm hno
    · refine Nat.lt_of_le_of_ne (List.takeWhile_sublist _).length_le fun e => ?_
      have ht := (List.takeWhile_sublist (fun c => !([60] : List Int).contains c) (l := xs.drop a)).eq_of_length e
      have ha2 : ((xs.drop a).takeWhile fun c => !([60] : List Int).contains c).all (fun c => !([60] : List Int).contains c) = true := List.all_takeWhile
      rw [ht] at ha2
      have := List.all_eq_true.1 ha2 60 hm
      simp at this
  · intro hlt
    refine List.mem_of_mem_drop (i := a) (Classical.byContradiction fun hm => ?_)
    have : (xs.drop a).takeWhile (fun c => !([60] : List Int).contains c) = xs.drop a := by
      have := takeWhile_seg (f := fun c => !([60] : List Int).contains c) (z := xs.drop a) (r := []) (fun c hc => by
        have : c ≠ 60 := fun e => hm (e ▸ hc)
        simpa using this) (.inl rfl)
      rwa [List.append_nil] at this
    rw [this] at hlt
    omega
end Go.Proofs.YthfonniieaiocaaGreatDoor
