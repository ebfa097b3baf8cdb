/- Contract: address.Params. And what stands behind it. -/
import Derived.Test.YthfonniieaiocaaGreatDoorUt
import Derived.Shelf.Strings.Builder1
import Derived.Shelf.Strings.Builder2
import Derived.Shelf.Strings.OnBuilder
import Derived.Shelf.Strings.Trim
import Derived.Shelf.Small.Utf8
import Derived.Shelf.Small.Strs
import Derived.Shelf.Small.Wraps
import Derived.Shelf.Strings.BuilderF
import Derived.Shelf.Strings.BuilderK
import Derived.Shelf.Strings.Builder2Cap
import Derived.Shelf.Strconv.Itoa0
import Derived.Shelf.Strconv.Itoa1
import Derived.Shelf.LaysM
import Derived.Shelf.Strconv.Itoa2
import Derived.Shelf.Strconv.Itoa3
import Derived.Shelf.Strings.Search1
import Derived.Shelf.Strings.Search2
import Derived.Shelf.Strings.Search3
import Derived.Shelf.Strings.Cut
import Derived.Shelf.Strings.Count
import Derived.Shelf.Strings.Shaped
import Derived.Shelf.Strings.Prefix
import Derived.Shelf.Strings.Split
import Derived.Shelf.Strings.SplitShaped
import Derived.Shelf.Unicode.Decode
import Derived.Shelf.Strings.Runes
import Derived.Shelf.Strings.RuneCount
import Derived.Shelf.Strings.IndexAny
import Derived.Shelf.Strings.AsciiSet
import Derived.Shelf.Strings.IndexAnyAll
import Derived.Shelf.Strings.Explode
import Derived.Shelf.Unicode.DecodeSlow
import Derived.Shelf.Unicode.DecodeAny
import Derived.Shelf.Strings.BuilderCap
import Derived.Test.YthfonniieaiocaaGreatDoorProg
set_option linter.unusedVariables false
set_option linter.unusedSimpArgs false
set_option maxRecDepth 100000
set_option maxHeartbeats 4000000
namespace Go.Proofs.YthfonniieaiocaaGreatDoor
open Go.RowKit

theorem parsN_end {X : List Int} {f a a0 : Nat} {l : List Pm} (h : skipTo isBlank X a = a0) (h2 : X.length ≤ a0) : parsN X (f + 1) a l = .ok l := by
  rw [parsN_eq h rfl, if_pos h2]
theorem parsN_sep {X : List Int} {f a a0 : Nat} {l : List Pm} (h : skipTo isBlank X a = a0) (h2 : ¬ X.length ≤ a0) (h3 : X.getD a0 0 ≠ 59) : parsN X (f + 1) a l = .error (a0, 5) := by
  rw [parsN_eq h rfl, if_neg h2, if_pos h3]
theorem parsN_go {X : List Int} {f a a0 a1 : Nat} {l : List Pm} (h : skipTo isBlank X a = a0) (h2 : ¬ X.length ≤ a0) (h3 : X.getD a0 0 = 59) (h4 : skipTo isBlank X (a0 + 1) = a1) :
    parsN X (f + 1) a l = match listedH X a1 with
      | .error e => .error e
      | .ok (p, a2) => if roomL l p.n ≠ 0 then .error (a1, roomL l p.n) else parsN X f a2 (l ++ [p]) := by
  rw [parsN_eq h h4, if_neg h2, if_neg (fun h => h h3)]; rfl
def PRH (w : World) (cb : Nat) (s : ByteArray) (X : List Int) (R : Except (Nat × Int) (List Pm)) (v : Value) (wr : World) : Prop := ∃ (a f n c : Nat) (A : Option Addr) (l : List Pm), a ≤ s.size ∧ n ≤ 16 ∧ Hid (n = l.length) ∧ v = .slice A n c ∧ s.size + 1 ≤ f + a ∧ Hid (R = parsN X f a l ∧ ∀ p ∈ l, By p.n) ∧ Hid (PS w cb s a l v wr)
theorem paramsh_any (s : ByteArray) (w : World) (hs : s.size ≤ 4000000) (hG : GM w) (hP : PT w) : Calls Tryz.prog 39 #[.string s] w (ParP w (parsL (byteL s))) := by
  have HL := kd (byteL_len s)
  have HBY := kd (byteL_by s)
  have PE := kd (show parsL (byteL s) = parsN (byteL s) (s.size + 1) 0 [] by unfold parsL; rw [byteL_len])
  have LIS := kd (fun w2 b a h ha hb hge => listedh_any w w2 b a s h ha hs hb hge hG hP)
  have BLK := kd (fun w b a e h1 h2 (h3 : skipTo isBlank (byteL s) a = e) => show Calls Tryz.prog 80 #[.pointer (some ⟨b, 0, none⟩)] w fun r w' => r = .returned (.tuple #[]) ∧ CG w b s e w' by subst h3; exact curblanks_any w b a s h1 h2 hs)
  have SEE := kd (fun w b a c h1 => cursees_any w b a c s h1)
  have SKL := kd (fun a (h : a ≤ s.size) => show skipTo isBlank (byteL s) a ≤ s.size from by rw [← byteL_len s]; exact skip_le (by rw [byteL_len]; exact h))
  have SKG := kd (fun a => skip_ge isBlank (byteL s) a)
  have BAD := kd (fun w' z k h hk hb => ParP.bad (w := w) (w' := w') (R := parsL (byteL s)) (z := z) (k := k) h hk hb)
  have GOOD := kd (fun w' l v h hv hl => ParP.good (w := w) (w' := w') (R := parsL (byteL s)) (l := l) (v := v) h hv hl)
  generalize ParP w (parsL (byteL s)) = PP at *
  generalize parsL (byteL s) = R at *
  generalize byteL s = X at *
  clear hG hP
  have P0 := kd (show PS w w.heap.size s 0 [] (.slice none 0 0) (w.alloc (.cells #[.string s, .int .i64 0] 84)) from ⟨Row.new w 84 [.string s, .int .i64 0], Nat.le_refl _, (VX.nil _ _ w).step ((Below.refl w.heap.size w).alloc (Nat.le_refl _) _)⟩)
  go_enter Tryz.func39, Tryz.ntmps39
  go_wp2_with fail
  go_loopw [6] (fun v wr => PRH w w.heap.size s X R v wr) (fun v _ => 17 - lenOf v)
  case atStart => exact ⟨0, s.size + 1, 0, 0, none, [], Nat.zero_le _, Nat.zero_le _, kd rfl, rfl, by omega, kd ⟨PE.out, fun p hp => by cases hp⟩, P0⟩
  case round =>
    clear P0 PE
    obtain ⟨a, f, n, c, A, l, ha, hl16, hn, rfl, hf, HK, HP⟩ := hrel
    obtain ⟨f, rfl⟩ : ∃ g, f = g + 1 := ⟨f - 1, by omega⟩
    obtain ⟨a0, ha0⟩ : ∃ k, skipTo isBlank X a = k := ⟨_, rfl⟩
    obtain ⟨a1, ha1⟩ : ∃ k, skipTo isBlank X (a0 + 1) = k := ⟨_, rfl⟩
    have aa0 : a ≤ a0 := by rw [← ha0]; exact SKG.out a
    have a0s : a0 ≤ s.size := by rw [← ha0]; exact SKL.out a ha
    have A01 := kd (show a0 + 1 ≤ a1 by rw [← ha1]; exact SKG.out _)
    have A1S := kd (fun (h : a0 < s.size) => show a1 ≤ s.size by rw [← ha1]; exact SKL.out _ h)
    have EN := kd (fun h => parsN_end (f := f) (l := l) ha0 h)
    have ES := kd (fun h h2 => parsN_sep (f := f) (l := l) ha0 h h2)
    have EG := kd (fun h h2 => parsN_go (f := f) (l := l) ha0 h h2 ha1)
    have HA0 := kd ha0; have HA1 := kd ha1
    clear ha0 ha1
    go_wp2_with fail
    refine (BLK.out wr w.heap.size a a0 HP.out.c ha HA0.out).mono ?_
    rintro e w1 ⟨rfl, hc⟩
    have P1 := kd (HP.out.cur hc)
    clear hc HP
    go_wp2_with fail
    refine (curended_any w1 w.heap.size a0 s P1.out.c).mono ?_
    rintro e w2 ⟨rfl, q, rfl⟩
    have P2 := kd (P1.out.call (below_drewN _ q))
    clear P1
    generalize w1.drewN q = w2 at *
    by_cases hE : s.size ≤ a0
    · rw [decide_eq_true hE]
      have E := kd (HK.out.1.trans (EN.out (by rw [HL.out]; exact hE)))
      clear EN ES EG
      go_wp2_with fail
      go_ret3
      exact GOOD.out _ _ _ E.out P2.out.o (by rw [← hn.out]; exact hl16)
    · rw [decide_eq_false hE]
      have hE2 : ¬ X.length ≤ a0 := by rw [HL.out]; exact hE
      have a0l : a0 < s.size := by omega
      have a1s := A1S.out a0l
      go_wp2_with fail
      refine (SEE.out w2 w.heap.size a0 59 P2.out.c).mono ?_
      rintro e w3 ⟨rfl, q3, rfl⟩
      have P3 := kd (P2.out.call (below_drewN _ q3))
      clear P2
      generalize w2.drewN q3 = w3 at *
      by_cases hS : X.getD a0 0 = 59
      case neg =>
        rw [seesB_no (fun h => hS h.2)]
        have E := kd (HK.out.1.trans (ES.out hE2 hS))
        clear EN ES EG
        have k1 := P3.out.c.cell 1
        simp only [List.getElem?_cons_succ, List.getElem?_cons_zero] at k1
        go_wp2_with fail
        go_quiet (fail)
        go_wp2_with fail
        go_ret3
        exact BAD.out _ _ _ E.out (by decide) (P3.out.o.drewN _).bw
      case pos =>
        rw [seesB_yes ⟨by omega, hS⟩]
        have EG2 := kd (HK.out.1.trans (EG.out hE2 hS))
        have k1 := P3.out.c.cell 1
        simp only [List.getElem?_cons_succ, List.getElem?_cons_zero] at k1
        have f1 := P3.out.c.frozen 1
        have P4 := kd (P3.out.cset (a0 + 1) (z := (a0 : Int) + 1) (by push_cast; rfl))
        clear EN ES EG hS hE hE2
        go_wp2_with fail
        clear k1 f1 P3
        generalize w3.setCell ⟨w.heap.size, 1, none⟩ (.int .i64 ((a0 : Int) + 1)) = w4 at *
        refine (BLK.out w4 w.heap.size (a0 + 1) a1 P4.out.c a0l HA1.out).mono ?_
        rintro e w5 ⟨rfl, hc⟩
        have P5 := kd (P4.out.cur hc)
        clear hc P4
        have k1 := P5.out.c.cell 1
        simp only [List.getElem?_cons_succ, List.getElem?_cons_zero] at k1
        go_wp2_with fail
        clear k1
        have LQ := kd (LIS.out w5 w.heap.size a1 P5.out.c a1s P5.out.o.bw (Nat.le_refl _))
        have LOK := kd (fun p a' h => listedH_ok (X := X) (a := a1) (p := p) (a' := a') HBY.out (by rw [HL.out]; exact a1s) h)
        have LER := kd (fun z k h => (listedH_err (X := X) (a := a1) (z := z) (k := k) (by rw [HL.out]; exact a1s) h).1)
        refine LQ.out.mono ?_
        clear LQ
        intro e w6 hq
        have HQ := kd hq
        clear hq
        obtain ⟨L, hL⟩ : ∃ L, listedH X a1 = L := ⟨_, rfl⟩
        rw [hL] at EG2 HQ LOK LER
        clear hL
        cases L with
        | error q =>
          obtain ⟨z, k⟩ := q
          obtain ⟨rfl, a', hc⟩ := HQ.out
          have P6 := kd (P5.out.cur hc)
          have hk := LER.out z k rfl
          have hkb : (k == 0) = false := by simp [hk]
          have hkn : (k != 0) = true := by simp [hk]
          have BN := kd ((Below.refl w6.heap.size w6).alloc (Nat.le_refl _) (.cells #[.string ⟨#[]⟩, .string ⟨#[]⟩, .bool false] 56))
          clear hc HQ LOK LER
          go_wp2_with fail
          go_ret3
          exact BAD.out _ _ _ EG2.out hk (P6.out.call BN.out).o.bw
        | ok q =>
          obtain ⟨p, a2⟩ := q
          obtain ⟨rfl, hc⟩ := HQ.out
          have P6 := kd (P5.out.cur hc)
          obtain ⟨pn, pv, ph⟩ := p
          have OK := kd (LOK.out _ _ rfl)
          dsimp only at OK
          have EG3 := kd (show R = if roomL l pn ≠ 0 then .error (a1, roomL l pn) else parsN X f a2 (l ++ [⟨pn, pv, ph⟩]) from EG2.out)
          have BN := kd ((Below.refl w6.heap.size w6).alloc (Nat.le_refl _) (.cells #[.string (strOfNums pn), .string (strOfNums pv), .bool ph] 56))
          have P7 := kd (P6.out.call BN.out)
          have RP := kd (Row.new w6 56 [.string (strOfNums pn), .string (strOfNums pv), .bool ph])
          clear hc HQ LOK LER EG2 P6 BN P5
          dsimp only
          go_upto_region 12 with (fail)
          generalize w6.alloc (.cells #[.string (strOfNums pn), .string (strOfNums pv), .bool ph] 56) = w7 at *
          generalize w6.heap.size = pb at *
          have k0 := RP.out.cell 0
          simp only [List.getElem?_cons_succ, List.getElem?_cons_zero] at k0
          go_wp2_with fail
          clear k0
          obtain ⟨A', c', hv, _, hR⟩ := pms_rds P7.out.o
          injection hv with hv1 hv2 hv3
          subst hv1; subst hv3
          refine (room_any A n c l pn w7 hR hn.out.symm (by omega) HK.out.2 OK.out.1).mono ?_
          rintro e w8 ⟨rfl, hb⟩
          have P8 := kd (P7.out.call hb)
          have RP8 := kd (RP.out.below hb)
          clear hb P7 RP hR hv2
          by_cases hr : roomL l pn = 0
          · have E := kd (EG3.out.trans (if_neg (fun h => h hr)))
            have l15 : n < 16 := by rw [hn.out]; exact roomL_zero hr
            rw [hr]
            clear EG3 hr
            go_wp2_with (first
              | (with_reducible refine wpList_loadR rfl 56 (.tmp 8) rfl RP8.out rfl Tryz.underlying56 rfl (sizePm _ _ _) ?_)
              | (with_reducible refine wpList_pushC rfl (.tmp 44) (.tmp 46) rfl rfl P8.out ⟨pn, pv, ph⟩ rfl (by have := hn.out; omega) ?_))
            intro v' w9 P9
            obtain ⟨A9, c9, hv9, _, _⟩ := pms_rds P9.out.o
            subst hv9
            go_wp2_with fail
            go_roundw
            case rel =>
              have h5 := OK.out.2.2.2.2
              have hln : (l ++ [(⟨pn, pv, ph⟩ : Pm)]).length = n + 1 := by rw [hn.out]; simp
              exact ⟨a2, f, _, c9, A9, l ++ [⟨pn, pv, ph⟩], by have := HL.out; omega, by omega, kd rfl, rfl, by have := A01.out; omega, kd ⟨E.out, fun p hp => by
                rcases List.mem_append.1 hp with h | h
                · exact HK.out.2 p h
                · rw [List.mem_singleton] at h
                  subst h
                  exact OK.out.1⟩, P9⟩
            case measure =>
              have hln : (l ++ [(⟨pn, pv, ph⟩ : Pm)]).length = n + 1 := by rw [hn.out]; simp
              simp only [lenOf]
              omega
          · have E := kd (EG3.out.trans (if_pos hr))
            have hkn : (roomL l pn != 0) = true := by simp [hr]
            go_wp2_with fail
            go_ret3
            exact BAD.out _ _ _ E.out hr P8.out.o.bw

theorem join32_len {l : List (List Int)} {k : Nat} (h : ∀ p ∈ l, p.length ≤ k) : (joinL [32] l).length ≤ (k + 1) * l.length := by
  induction l with
  | nil => simp [joinL_nil]
  | cons p r ih =>
    have h1 := h p (by simp)
    have h2 := ih fun q hq => h q (List.mem_cons_of_mem _ hq)
    cases r with
    | nil => rw [joinL_one, List.length_singleton]; omega
    | cons q r =>
      rw [joinL_cons, List.length_append, List.length_append, List.length_cons (a := p), Nat.mul_succ]
      have : ([32] : List Int).length = 1 := rfl
      omega
theorem wordsN_go {xs : List Int} {f a e : Nat} {l : List (List Int)} (h : atL xs a 60 = false) (he : skipTo isTok xs a = e) (hne : e ≠ a) : wordsN xs (f + 1) a l = wordsN xs f (skipTo isBlank xs e) (l ++ [subL xs a e]) := by
  subst he
  conv => lhs; unfold wordsN
  rw [if_neg (by rw [h]; decide)]
  dsimp only
  rw [if_neg hne]
theorem wordsN_bad {xs : List Int} {f a : Nat} {l : List (List Int)} (h : atL xs a 60 = false) (he : skipTo isTok xs a = a) : wordsN xs (f + 1) a l = .error a := by
  conv => lhs; unfold wordsN
  rw [if_neg (by rw [h]; decide)]
  dsimp only
  rw [if_pos he]
theorem words_ok {xs : List Int} (hx : By xs) : ∀ (f a : Nat) (l : List (List Int)), a ≤ xs.length → (∀ p ∈ l, By p ∧ p.length ≤ xs.length) → l.length ≤ a → xs.length + 1 ≤ f + a → match wordsN xs f a l with
    | .ok r => (∀ p ∈ r.1, By p ∧ p.length ≤ xs.length) ∧ r.1.length ≤ r.2 ∧ r.2 ≤ xs.length ∧ atL xs r.2 60 = true
    | .error e => e ≤ xs.length
  | 0, a, l, ha, hl, hn, hf => by omega
  | f + 1, a, l, ha, hl, hn, hf => by
    by_cases h : atL xs a 60 = true
    · rw [wordsN_at h]; exact ⟨hl, hn, ha, h⟩
    have h0 : atL xs a 60 = false := by simpa using h
    by_cases he : skipTo isTok xs a = a
    · rw [wordsN_bad h0 he]; exact ha
    · have e1 : a ≤ skipTo isTok xs a := skip_ge _ _ _
      have e2 : skipTo isTok xs a ≤ xs.length := skip_le ha
      have e3 : skipTo isTok xs a ≤ skipTo isBlank xs (skipTo isTok xs a) := skip_ge _ _ _
      rw [wordsN_go h0 rfl he]
      refine words_ok hx f _ _ (skip_le e2) (fun p hp => ?_) (by rw [List.length_append, List.length_singleton]; omega) (by omega)
      rcases List.mem_append.1 hp with hp | hp
      · exact hl p hp
      · rw [List.mem_singleton] at hp
        subst hp
        exact ⟨hx.sub (subL_sub _ _ _), (subL_sub xs _ _).length_le⟩
theorem name_ok {xs : List Int} (hx : By xs) (hl : xs.length ≤ 1024) : match nameL xs with
    | .ok r => By r.1 ∧ r.1.length ≤ 1100000 ∧ r.2 ≤ xs.length
    | .error e => e.1 ≤ xs.length ∧ e.2 ≠ 0 := by
  obtain ⟨a, ha⟩ : ∃ a, skipTo isBlank xs 0 = a := ⟨_, rfl⟩
  obtain ⟨b, hb⟩ : ∃ b, skipTo isBlank xs (unq xs (a : Nat)).2.1 = b := ⟨_, rfl⟩
  have as_ : a ≤ xs.length := by rw [← ha]; exact skip_le (Nat.zero_le _)
  have us := unq_pos as_
  have bs : b ≤ xs.length := by rw [← hb]; exact skip_le us.1
  obtain ⟨q4, q5⟩ := unq_mem xs (a : Nat)
  rw [nameL_eq ha hb]
  by_cases h1 : atL xs a 34 = true
  · rw [if_pos h1]
    by_cases h2 : (unq xs (a : Nat)).2.2 ≠ 0
    · rw [if_pos h2]; exact ⟨us.1, h2⟩
    · rw [if_neg h2]
      by_cases h3 : atL xs b 60 = false
      · rw [if_pos h3]; exact ⟨bs, show (5 : Int) ≠ 0 by decide⟩
      · rw [if_neg h3]; exact ⟨fun x hx2 => hx x (q4 x hx2), Nat.le_trans q5 (by omega), bs⟩
  · rw [if_neg h1]
    by_cases h2 : xs.contains 60 = true
    · rw [if_pos h2]
      have hw := words_ok hx (xs.length + 1) a [] as_ (fun p hp => by cases hp) (Nat.zero_le _) (by omega)
      cases hr : wordsN xs (xs.length + 1) a [] with
      | error e => rw [hr] at hw; exact ⟨hw, show (5 : Int) ≠ 0 by decide⟩
      | ok r =>
        rw [hr] at hw
        obtain ⟨l, c⟩ := r
        obtain ⟨w1, w2, w3, _⟩ := hw
        dsimp only at w1 w2 w3 ⊢
        refine ⟨joinL_by2 (fun x hx => by rw [List.mem_singleton] at hx; subst hx; decide) fun p hp => (w1 p hp).1, ?_, w3⟩
        have := join32_len (k := 1024) fun p hp => Nat.le_trans (w1 p hp).2 hl
        have : (1024 + 1) * l.length ≤ 1025 * 1024 := Nat.mul_le_mul (Nat.le_refl _) (by omega)
        omega
    · rw [if_neg h2]; exact ⟨(fun x hx => by cases hx), Nat.zero_le _, as_⟩
theorem has_60 {xs : List Int} {a : Nat} (ha : skipTo isBlank xs 0 = a) : xs.contains 60 = decide (untilL xs a [60] < xs.length) := by
  have hs : xs = xs.take a ++ xs.drop a := (List.take_append_drop a xs).symm
  have ht : xs.take a = xs.takeWhile isBlank := by
    have h0 : a = (xs.takeWhile isBlank).length := by
      rw [← ha]; unfold skipTo; rw [List.drop_zero, Nat.zero_add]
    rw [h0]
    exact (List.prefix_iff_eq_take.1 (List.takeWhile_prefix isBlank)).symm
  have hno : (60 : Int) ∉ xs.take a := fun hm => by
    rw [ht] at hm
    have : (xs.takeWhile isBlank).all isBlank = true := List.all_takeWhile
    have := List.all_eq_true.1 this 60 hm
    cases this
  have as_ : a ≤ xs.length := by rw [← ha]; exact skip_le (Nat.zero_le _)
  rw [Bool.eq_iff_iff, decide_eq_true_iff, List.contains_iff_mem]
  have hl : (xs.drop a).length = xs.length - a := List.length_drop
  have hu : untilL xs a [60] < xs.length ↔ ((xs.drop a).takeWhile fun c => !([60] : List Int).contains c).length < (xs.drop a).length := by
    unfold untilL skipTo; omega
  rw [hu]
  constructor
  · intro hm
    rw [hs] at hm
    rcases List.mem_append.1 hm with hm | hm
    · exact absurd hm hno
    · refine Nat.lt_of_le_of_ne (List.takeWhile_sublist _).length_le fun e => ?_
      have ht := (List.takeWhile_sublist (fun c => !([60] : List Int).contains c) (l := xs.drop a)).eq_of_length e
      have ha2 : ((xs.drop a).takeWhile fun c => !([60] : List Int).contains c).all (fun c => !([60] : List Int).contains c) = true := List.all_takeWhile
      rw [ht] at ha2
      have := List.all_eq_true.1 ha2 60 hm
      simp at this
  · intro hlt
    refine List.mem_of_mem_drop (i := a) (Classical.byContradiction fun hm => ?_)
    have : (xs.drop a).takeWhile (fun c => !([60] : List Int).contains c) = xs.drop a := by
      have := takeWhile_seg (f := fun c => !([60] : List Int).contains c) (z := xs.drop a) (r := []) (fun c hc => by
        have : c ≠ 60 := fun e => hm (e ▸ hc)
        simpa using this) (.inl rfl)
      rwa [List.append_nil] at this
    rw [this] at hlt
    omega

def LA (cb ab : Nat) (s : ByteArray) (a : Nat) (us : List Value) : List Blk := [(cb, 84, [.string s, .int .i64 a]), (ab, 38, us)]
def aC (d : List Int) (u1 u2 u3 : ByteArray) (po : Int) (v1 v2 v3 : Value) : List Value := [.string (strOfNums d), .string u1, .string u2, .string u3, .int .i64 po, v1, v2, v3]
abbrev aC0 (d : List Int) : List Value := aC d ⟨#[]⟩ ⟨#[]⟩ ⟨#[]⟩ 0 (.slice none 0 0) (.slice none 0 0) (.slice none 0 0)
section
variable {w wr w' : World} {cb ab a : Nat} {s : ByteArray} {us : List Value}
theorem la_c (h : Mine w wr (LA cb ab s a us) []) : Row wr cb 84 [.string s, .int .i64 a] := h.row (i := 0) rfl
theorem la_a (h : Mine w wr (LA cb ab s a us) []) : Row wr ab 38 us := h.row (i := 1) rfl
theorem la_cset (h : Mine w wr (LA cb ab s a us) []) (a' : Nat) {z : Int} (hz : z = a') : Mine w (wr.setCell ⟨cb, 1, none⟩ (.int .i64 z)) (LA cb ab s a' us) [] := by
  subst hz; exact h.setCell (i := 0) (off := 1) _ rfl rfl
theorem la_aset (h : Mine w wr (LA cb ab s a us) []) (i : Nat) (u : Value) : Mine w (wr.setCell ⟨ab, i, none⟩ u) (LA cb ab s a (us.set i u)) [] := h.setCell (i := 1) (off := i) u rfl rfl
theorem la_cur {a' : Nat} (h : Mine w wr (LA cb ab s a us) []) (hg : CG wr cb s a' w') : Mine w w' (LA cb ab s a' us) [] := by
  have hne : cb ≠ ab := rowT_ne (la_c h) (la_a h) (by decide)
  refine ⟨h.bw.grown hg.g h.bw.size (fun k hk => by cases hk; exact h.ge (i := 0) rfl), fun r hr => ?_, by simpa [LA] using hne, fun F hF => by cases hF⟩
  simp only [LA, List.mem_cons, List.not_mem_nil, or_false] at hr
  rcases hr with rfl | rfl
  · exact ⟨hg.r, h.ge (i := 0) rfl⟩
  · exact ⟨(la_a h).heap (hg.g.block ab (la_a h).lt (fun e => hne (Option.some.inj e).symm)), h.ge (i := 1) rfl⟩
theorem la_grown {v : Value} (h : Mine w wr (LA cb ab s a us) []) (hg : wr.grownBy w' v.ownBlock) (hb : ∀ k, v.ownBlock = some k → w.heap.size ≤ k) (h1 : ∀ k, v.ownBlock = some k → k ≠ cb) (h2 : ∀ k, v.ownBlock = some k → k ≠ ab) : Mine w w' (LA cb ab s a us) [] := by
  have hne : cb ≠ ab := rowT_ne (la_c h) (la_a h) (by decide)
  refine ⟨h.bw.grown hg h.bw.size hb, fun r hr => ?_, by simpa [LA] using hne, fun F hF => by cases hF⟩
  simp only [LA, List.mem_cons, List.not_mem_nil, or_false] at hr
  rcases hr with rfl | rfl
  · exact ⟨(la_c h).heap (hg.block cb (la_c h).lt (fun e => h1 cb e.symm rfl)), h.ge (i := 0) rfl⟩
  · exact ⟨(la_a h).heap (hg.block ab (la_a h).lt (fun e => h2 ab e.symm rfl)), h.ge (i := 1) rfl⟩
theorem rowT_vx {b n : Nat} {T T' : TypeId} {sz : Nat} {vs cs : List Value} {v : Value} (h : Row wr b T vs) (H : VX T' sz w v n cs wr) (ht : T ≠ T') : ∀ g, v.ownBlock = some g → g ≠ b := fun g hg e => by
  obtain ⟨cur, h1⟩ := H.row hg
  unfold Row at h
  rw [e, h] at h1
  injection h1 with h1
  injection h1 with _ h1
  exact ht h1
end
def QnP (w : World) (cb ab : Nat) (s : ByteArray) (R : Except (Nat × Int) (List Int × Nat)) (e : Ending) (w' : World) : Prop := match R with
  | .error q => e = .returned (.tuple #[.int .i64 (q.1 : Nat), .int .u8 q.2]) ∧ Below w.heap.size w w' ∧ q.2 ≠ 0
  | .ok (d, b) => e = .returned (.tuple #[.int .i64 0, .int .u8 0]) ∧ Mine w w' (LA cb ab s b (aC0 d)) []
theorem QnP.bad {w w' : World} {cb ab z : Nat} {k : Int} {s : ByteArray} {R : Except (Nat × Int) (List Int × Nat)} (h : R = .error (z, k)) (hb : Below w.heap.size w w') (hk : k ≠ 0) : QnP w cb ab s R (.returned (.tuple #[.int .i64 (z : Nat), .int .u8 k])) w' := by
  subst h; exact ⟨rfl, hb, hk⟩
theorem QnP.good {w w' : World} {cb ab b : Nat} {d : List Int} {s : ByteArray} {R : Except (Nat × Int) (List Int × Nat)} (h : R = .ok (d, b)) (hb : Mine w w' (LA cb ab s b (aC0 d)) []) : QnP w cb ab s R (.returned (.tuple #[.int .i64 0, .int .u8 0])) w' := by
  subst h; exact ⟨rfl, hb⟩
def qnL (xs : List Int) (a : Nat) : Except (Nat × Int) (List Int × Nat) :=
  if (unq xs (a : Nat)).2.2 ≠ 0 then .error ((unq xs (a : Nat)).2.1, (unq xs (a : Nat)).2.2)
  else if atL xs (skipTo isBlank xs (unq xs (a : Nat)).2.1) 60 = false then .error (skipTo isBlank xs (unq xs (a : Nat)).2.1, 5)
  else .ok ((unq xs (a : Nat)).1, skipTo isBlank xs (unq xs (a : Nat)).2.1)
theorem quoted_any (w wr : World) (cb ab a : Nat) (s : ByteArray) (H : Mine w wr (LA cb ab s a (aC0 [])) []) (ha : a ≤ s.size) (hs : s.size ≤ 4000000) :
    Calls Tryz.prog 81 #[.pointer (some ⟨cb, 0, none⟩), .pointer (some ⟨ab, 0, none⟩)] wr (QnP w cb ab s (qnL (byteL s) a)) := by
  have HM := kd H
  have HL := byteL_len s
  have BAD := kd (fun w' z k (h : qnL (byteL s) a = .error (z, k)) hb hk => QnP.bad (w := w) (w' := w') (cb := cb) (ab := ab) (s := s) h hb hk)
  have GOOD := kd (fun w' d b (h : qnL (byteL s) a = .ok (d, b)) hb => QnP.good (w := w) (w' := w') (cb := cb) (ab := ab) (s := s) h hb)
  obtain ⟨U, hU⟩ : ∃ U, unq (byteL s) (a : Nat) = U := ⟨_, rfl⟩
  have RE := kd (show qnL (byteL s) a = if U.2.2 ≠ 0 then .error (U.2.1, U.2.2) else if atL (byteL s) (skipTo isBlank (byteL s) U.2.1) 60 = false then .error (skipTo isBlank (byteL s) U.2.1, 5) else .ok (U.1, skipTo isBlank (byteL s) U.2.1) by subst hU; rfl)
  have UNQ := kd (fun w => unquote_b s a U w hU ha hs)
  obtain ⟨up, _⟩ := unq_pos (xs := byteL s) (i := a) (by rw [HL]; exact ha)
  rw [hU, HL] at up
  generalize QnP w cb ab s (qnL (byteL s) a) = PP at *
  generalize qnL (byteL s) a = R at *
  obtain ⟨u1, u2, u3⟩ := U
  dsimp only at RE up
  have BLK := kd (fun w h1 => curblanks_any w cb u2 s h1 up hs)
  obtain ⟨b, hb⟩ : ∃ b, skipTo isBlank (byteL s) u2 = b := ⟨_, rfl⟩
  rw [hb] at RE BLK
  have SE := kd (fun w h1 => cursees_any w cb b 60 s h1)
  rw [show seesB (byteL s) b 60 = atL (byteL s) b 60 from rfl] at SE
  generalize atL (byteL s) b 60 = s60 at *
  clear H hU hb HL
  go_enter Tryz.func81, Tryz.ntmps81
  go_upto_region 1 with (fail)
  have q0 := fun x : BW wr => (la_c HM.out).later x 0
  have q1 := fun x : BW wr => (la_c HM.out).later x 1
  simp only [List.getElem?_cons_succ, List.getElem?_cons_zero] at q0 q1
  refine region_bw (by kernel_rfl) (by kernel_rfl) ?_
  iterate 9 go_big_quiet_step (fail)
  go_big_quiet_step (exact calls_bw (UNQ.out _))
  iterate 7 go_big_quiet_step (fail)
  refine wpQuiet_nil ?_
  rintro _ ⟨x, rfl⟩
  have M := kd (HM.out.call x.h)
  clear q0 q1 HM UNQ
  generalize x.w = w2 at *
  by_cases h3 : u3 = 0
  · subst h3
    have RE2 := kd (RE.out.trans (if_neg (fun h => h rfl)))
    clear RE
    have k0 := (la_a M.out).cell 0
    simp only [aC, List.getElem?_cons_succ, List.getElem?_cons_zero] at k0
    have f0 := (la_a M.out).frozen 0
    have M3 := kd (show Mine w (w2.setCell ⟨ab, 0, none⟩ (.string (strOfNums u1))) (LA cb ab s a (aC0 u1)) [] from la_aset M.out 0 (.string (strOfNums u1)))
    have k1 := (la_c M3.out).cell 1
    simp only [List.getElem?_cons_succ, List.getElem?_cons_zero] at k1
    have f1 := (la_c M3.out).frozen 1
    have M4 := kd (la_cset M3.out u2 (z := (u2 : Int)) rfl)
    clear M
    go_upto_region 5 with (fail)
    clear k0 f0 k1 f1 M3
    generalize (w2.setCell ⟨ab, 0, none⟩ (.string (strOfNums u1))).setCell ⟨cb, 1, none⟩ (.int .i64 (u2 : Int)) = w4 at *
    go_wp2_with fail
    refine (BLK.out w4 (la_c M4.out)).mono ?_
    rintro _ w5 ⟨rfl, hc⟩
    have M5 := kd (la_cur M4.out hc)
    clear hc M4 BLK
    go_wp2_with fail
    refine (SE.out w5 (la_c M5.out)).mono ?_
    rintro _ _ ⟨rfl, nq, rfl⟩
    have M6 := kd (M5.out.call (below_drewN _ nq))
    clear M5 SE
    generalize w5.drewN nq = w6 at *
    cases s60 with
    | false =>
      have E := kd (show R = .error (b, 5) from RE2.out)
      clear RE2
      have k1 := (la_c M6.out).cell 1
      simp only [List.getElem?_cons_succ, List.getElem?_cons_zero] at k1
      go_wp2_with fail
      first | exact BAD.out _ _ _ E.out M6.out.bw (by decide) | (go_ret2; exact BAD.out _ _ _ E.out M6.out.bw (by decide))
    | true =>
      have E := kd (show R = .ok (u1, b) from RE2.out)
      clear RE2
      go_wp2_with fail
      first | exact GOOD.out _ _ _ E.out M6.out | (go_ret2; exact GOOD.out _ _ _ E.out M6.out)
  · have hb3 : (u3 != 0) = true := by simpa using h3
    have E := kd (RE.out.trans (if_pos h3))
    have H3 := kd h3
    clear RE h3
    go_wp2_with fail
    first | exact BAD.out _ _ _ E.out M.out.bw H3.out | (go_ret2; exact BAD.out _ _ _ E.out M.out.bw H3.out)
structure WdR (w : World) (cb ab : Nat) (s : ByteArray) (a : Nat) (l : List (List Int)) (v : Value) (wr : World) : Prop where
  m : Mine w wr (LA cb ab s a (aC0 [])) []
  o : SXL w v l wr
section
variable {w wr w' : World} {cb ab a a' : Nat} {s : ByteArray} {l : List (List Int)} {v : Value}
theorem WdR.call (h : WdR w cb ab s a l v wr) (hb : Below wr.heap.size wr w') : WdR w cb ab s a l v w' := ⟨h.m.call hb, h.o.step hb⟩
theorem WdR.cur (h : WdR w cb ab s a l v wr) (hg : CG wr cb s a' w') : WdR w cb ab s a' l v w' :=
  ⟨la_cur h.m hg, h.o.other (la_cur h.m hg).bw fun g hg2 => hg.g.block g (h.o.own_lt hg2) (fun e => rowT_vx (la_c h.m) h.o (by decide) g hg2 (Option.some.inj e))⟩
end
theorem wpList_pushW {w wr : World} {cb ab a0 : Nat} {s : ByteArray} {l : List (List Int)} {v : Value} {ops : Array Oper} {rest : List Oper} {o : Oper} {a : Act} {Q : Exit → Act → World → Prop} (hgd : o.guard = none) (x y : Operand)
    (ho : o.op = .call { callee := .builtin .append, args := #[x, y], argTypes := #[75, 75] }) (hs : a.eval x = v) (H : WdR w cb ab s a0 l v wr) (p : List Int) (hy : a.eval y = .slice (some ⟨wr.heap.size, 0, none⟩) 1 1) (hb : l.length + 1 ≤ 16777216)
    (h : ∀ v' w', Hid (WdR w cb ab s a0 (l ++ [p]) v' w') → wpList Tryz.prog ops Q rest (a.put o.dst v') w') : wpList Tryz.prog ops Q (o :: rest) a (wr.alloc (.cells #[.string (strOfNums p)] 9)) := by
  obtain ⟨i, hi, hz, hsz, hbt⟩ := infoS
  have ha : Below wr.heap.size wr (wr.alloc (.cells #[.string (strOfNums p)] 9)) := (Below.refl _ _).alloc (Nat.le_refl _) _
  have hbase : w.heap.size ≤ (wr.alloc (.cells #[.string (strOfNums p)] 9)).heap.size := by have := H.o.bw.size; simp; omega
  refine wpList_append_own_at _ hgd x y 75 ho w.heap.size 9 i _ 1 16 Tryz.underlying75 hi hz hsz hbt rfl (by omega) v l.length (strs l) hs (H.o.o.alloc _) ⟨wr.heap.size, 0, none⟩ 1 1 [.string (strOfNums p)] hy rfl (fun j u hu => ?_) (fun u hu => by simp at hu; subst hu; rfl) (by unfold maxLen; omega) ?_ hbase ?_
  · rw [Addr.add_mid, Nat.zero_add]
    exact ((Row.new wr 9 [.string (strOfNums p)]).cell j).trans hu
  · omega
  · intro v' w' h2 h3 _ _
    have H1 := H.call ha
    refine h v' w' (kd ⟨la_grown H1.m h3 (own_block H1.o.o) (rowT_vx (la_c H1.m) H1.o (by decide)) (rowT_vx (la_a H1.m) H1.o (by decide)), ?_⟩)
    unfold SXL
    rw [strs_snoc, List.length_append]
    exact ⟨h2, H1.o.bw.grown h3 hbase (own_block H1.o.o)⟩
theorem joinw_any {w w0 : World} {v : Value} {l : List (List Int)} (H : SXL w0 v l w) (hb : ∀ p ∈ l, By p) (h4 : (joinL [32] l).length ≤ 1000000000) (hl : l.length ≤ 1000000) :
    Calls Tryz.prog 126 #[v, .string ⟨#[32]⟩] w fun e w' => e = .returned (.string (strOfNums (joinL [32] l))) ∧ Below w.heap.size w w' := by
  have hm : (l.map strOfNums).map byteL = l := by
    rw [List.map_map]
    exact (List.map_congr_left fun p hp => byteL_str (hb p hp)).trans (List.map_id _)
  have hs : strs l = (l.map strOfNums).map Value.string := by unfold strs; rw [List.map_map]; rfl
  have h := join_any (w := w) (w0 := w0) (v := v) (zs := l.map strOfNums) ⟨by rw [List.length_map, ← hs]; exact H.o, H.bw⟩ ⟨#[32]⟩ (by rw [List.length_map]; exact hl) (by rw [hm, show byteL ⟨#[32]⟩ = [32] from rfl]; omega)
  rw [hm, show byteL ⟨#[32]⟩ = [32] from rfl] at h
  exact h
def wdM (T : Except Nat (List (List Int) × Nat)) : Except (Nat × Int) (List Int × Nat) := match T with
  | .error e => .error (e, 5)
  | .ok (l, b) => .ok (joinL [32] l, b)
def wdL (xs : List Int) (a : Nat) : Except (Nat × Int) (List Int × Nat) := wdM (wordsN xs (xs.length + 1) a [])
theorem wdL_eq {xs : List Int} {a : Nat} {T : Except Nat (List (List Int) × Nat)} (h : wordsN xs (xs.length + 1) a [] = T) : wdL xs a = wdM T := by subst h; rfl
def PnR (w : World) (cb ab : Nat) (s : ByteArray) (T : Except Nat (List (List Int) × Nat)) (g : Nat) (v : Value) (wx : World) : Prop := ∃ (a f n c : Nat) (A : Option Addr) (l : List (List Int)), a ≤ s.size ∧ a + g = s.size + 1 ∧ s.size + 1 ≤ f + a ∧ n = l.length ∧ l.length ≤ a ∧ v = .slice A n c ∧ Hid (T = wordsN (byteL s) f a l) ∧ Hid (WdR w cb ab s a l v wx)
theorem plainname_any (w wr : World) (cb ab a : Nat) (s : ByteArray) (H : Mine w wr (LA cb ab s a (aC0 [])) []) (ha : a ≤ s.size) (hs : s.size ≤ 1024) :
    Calls Tryz.prog 83 #[.pointer (some ⟨cb, 0, none⟩), .pointer (some ⟨ab, 0, none⟩)] wr (QnP w cb ab s (wdL (byteL s) a)) := by
  have HM := kd H
  have HL := byteL_len s
  have HBY := kd (byteL_by s)
  have BAD := kd (fun w' z k (h : wdL (byteL s) a = .error (z, k)) hb hk => QnP.bad (w := w) (w' := w') (cb := cb) (ab := ab) (s := s) h hb hk)
  have GOOD := kd (fun w' d b (h : wdL (byteL s) a = .ok (d, b)) hb => QnP.good (w := w) (w' := w') (cb := cb) (ab := ab) (s := s) h hb)
  obtain ⟨T, hT⟩ : ∃ T, wordsN (byteL s) (s.size + 1) a [] = T := ⟨_, rfl⟩
  have RE := kd (wdL_eq (xs := byteL s) (a := a) (T := T) (by rw [HL]; exact hT))
  have WO := kd (words_ok HBY.out (s.size + 1) a [] (by rw [HL]; exact ha) (fun p hp => by cases hp) (Nat.zero_le _) (by omega))
  rw [hT] at WO
  have TOK := kd (fun w a h1 h2 => curtoken_any w cb a s h1 h2 (by omega))
  have BLK := kd (fun w a h1 h2 => curblanks_any w cb a s h1 h2 (by omega))
  have SE := kd (fun w a h1 => cursees_any w cb a 60 s h1)
  generalize QnP w cb ab s (wdL (byteL s) a) = PP at *
  generalize wdL (byteL s) a = R at *
  have W0 := kd (show WdR w cb ab s a [] (.slice none 0 0) wr from ⟨H, World.ownsRow_nil _ _ _ _, H.bw⟩)
  have TE0 := kd hT.symm
  clear H hT
  go_enter Tryz.func83, Tryz.ntmps83
  go_wp2_with fail
  go_loopg [6] (s.size + 1 - a) (fun g v wx => PnR w cb ab s T g v wx)
  case atStart => exact ⟨a, s.size + 1, 0, 0, none, [], ha, by omega, by omega, rfl, Nat.zero_le _, rfl, TE0, W0⟩
  case round =>
    clear W0 TE0 HM ha
    obtain ⟨i, f, n, c, A, l, hi, hg, hf, hn, hl, rfl, TE, WD⟩ := hrel
    subst hn
    obtain ⟨f, rfl⟩ : ∃ f', f = f' + 1 := ⟨f - 1, by omega⟩
    go_wp2_with fail
    refine (SE.out wr i (la_c WD.out.m)).mono ?_
    rintro _ _ ⟨rfl, nq, rfl⟩
    have W1 := kd (WD.out.call (below_drewN _ nq))
    clear WD
    generalize wr.drewN nq = w1 at *
    cases h60 : seesB (byteL s) i 60 with
    | true =>
      have TE2 := kd (TE.out.trans (wordsN_at h60))
      have E := kd (show R = .ok (joinL [32] l, i) by rw [RE.out, TE2.out]; rfl)
      have WO2 := WO.out
      rw [TE2.out] at WO2
      obtain ⟨o1, o2, _, _⟩ := WO2
      dsimp only at o1 o2
      have JL : (joinL [32] l).length ≤ 1000000000 := by
        have := join32_len (k := 1024) fun p hp => Nat.le_trans (o1 p hp).2 (by omega)
        have : (1024 + 1) * l.length ≤ 1025 * 1024 := Nat.mul_le_mul (Nat.le_refl _) (by omega)
        omega
      have JO := kd (joinw_any W1.out.o (fun p hp => (o1 p hp).1) JL (by omega))
      clear TE TE2 RE WO o1 o2 JL h60
      go_wp2_with fail
      refine JO.out.mono ?_
      rintro _ w2 ⟨rfl, hb2⟩
      have W2 := kd (W1.out.m.call hb2)
      clear W1 JO hb2
      have k0 := (la_a W2.out).cell 0
      simp only [aC, List.getElem?_cons_succ, List.getElem?_cons_zero] at k0
      have f0 := (la_a W2.out).frozen 0
      have M3 := kd (show Mine w (w2.setCell ⟨ab, 0, none⟩ (.string (strOfNums (joinL [32] l)))) (LA cb ab s i (aC0 (joinL [32] l))) [] from la_aset W2.out 0 (.string (strOfNums (joinL [32] l))))
      go_wp2_with fail
      first | exact GOOD.out _ _ _ E.out M3.out | (go_ret2; exact GOOD.out _ _ _ E.out M3.out)
    | false =>
      go_wp2_with fail
      refine (TOK.out w1 i (la_c W1.out.m) hi).mono ?_
      rintro _ w2 ⟨rfl, hc⟩
      have W2 := kd (W1.out.cur hc)
      clear hc W1
      obtain ⟨e, he⟩ : ∃ e, skipTo isTok (byteL s) i = e := ⟨_, rfl⟩
      rw [he] at W2
      have ei : i ≤ e := by rw [← he]; exact skip_ge _ _ _
      have es : e ≤ s.size := by rw [← he, ← HL]; exact skip_le (by rw [HL]; exact hi)
      by_cases h0 : e = i
      · have TE2 := kd (TE.out.trans (wordsN_bad h60 (he.trans h0)))
        have E := kd (show R = .error (i, 5) by rw [RE.out, TE2.out]; rfl)
        have EB : ((strOfNums (subL (byteL s) i e)).toList == ([] : List UInt8)) = true := by rw [empty_beq, subL_empty (by rw [HL]; exact es) ei, decide_eq_true h0]
        rw [he]
        have HI := kd h0
        generalize subL (byteL s) i e = tk at *
        clear TE TE2 RE WO h60 he h0
        have k1 := (la_c W2.out.m).cell 1
        simp only [List.getElem?_cons_succ, List.getElem?_cons_zero] at k1
        go_wp2_with fail
        first | exact BAD.out _ _ _ (by rw [HI.out]; exact E.out) W2.out.m.bw (by decide) | (go_ret2; exact BAD.out _ _ _ (by rw [HI.out]; exact E.out) W2.out.m.bw (by decide))
      · have TE2 := kd (TE.out.trans (wordsN_go h60 he h0))
        have EB : ((strOfNums (subL (byteL s) i e)).toList == ([] : List UInt8)) = false := by rw [empty_beq, subL_empty (by rw [HL]; exact es) ei, decide_eq_false h0]
        rw [he]
        obtain ⟨b, hb⟩ : ∃ b, skipTo isBlank (byteL s) e = b := ⟨_, rfl⟩
        have eb : e ≤ b := by rw [← hb]; exact skip_ge _ _ _
        have bs : b ≤ s.size := by rw [← hb, ← HL]; exact skip_le (by rw [HL]; exact es)
        rw [hb] at TE2
        have BL2 := kd (fun w h1 => BLK.out w e h1 es)
        rw [hb] at BL2
        generalize subL (byteL s) i e = tk at *
        clear TE RE h60 he hb
        go_wp2_with (with_reducible refine wpList_pushW rfl (.tmp 19) (.tmp 21) rfl rfl W2.out tk rfl (by omega) ?_)
        intro v9 w9 W9
        clear W2
        obtain ⟨A9, c9, hv9⟩ := sxl_form W9.out.o
        subst hv9
        go_wp2_with fail
        refine (BL2.out w9 (la_c W9.out.m)).mono ?_
        rintro _ w10 ⟨rfl, hc⟩
        have W10 := kd (W9.out.cur hc)
        clear hc W9
        go_wp2_with fail
        go_roundg (s.size + 1 - b)
        case measure => omega
        case rel =>
          rw [show (l ++ [tk]).length = l.length + 1 by simp] at W10
          exact ⟨b, f, l.length + 1, c9, A9, l ++ [tk], bs, by omega, by omega, by simp, by rw [List.length_append, List.length_singleton]; omega, rfl, TE2, W10⟩
end Go.Proofs.YthfonniieaiocaaGreatDoor
namespace Go.Proofs
open Go.Shelf
def Tryz.lays103_ren : Go.Shelf.Ren := ⟨fun | 103 => 153 | 210 => 182 | 206 => 193 | n => n, fun | 9 => 9 | 4 => 4 | 24 => 26 | 3 => 3 | n => n, fun | n => n⟩
theorem Tryz.lays103 : Go.Proofs.Lays.n103 Tryz.prog Tryz.lays103_ren := {
  mixed := by kernel_rfl
  f103 := Tryz.func153.trans (congrArg some (by kernel_rfl))
  f206 := Tryz.func193.trans (congrArg some (by kernel_rfl))
  f210 := Tryz.func182.trans (congrArg some (by kernel_rfl))
  t3 := Tryz.underlying3
  a3 := Tryz.isAgg3
  z3 := Tryz.sizeOf3
  v3 := Tryz.zeroValue3
  t4 := Tryz.underlying4
  a4 := Tryz.isAgg4
  z4 := Tryz.sizeOf4
  v4 := Tryz.zeroValue4
  t9 := Tryz.underlying9
  a9 := Tryz.isAgg9
  z9 := Tryz.sizeOf9
  v9 := Tryz.zeroValue9
  t24 := Tryz.underlying26
  a24 := Tryz.isAgg26
  z24 := Tryz.sizeOf26
  v24 := Tryz.zeroValue26 }
open Go.RowKit in
theorem Tryz.strings_CutPrefix (s p : ByteArray) (w : World) :
    Calls Tryz.prog 153 #[.string s, .string p] w fun e w' => e = .returned (.tuple #[.string ⟨(Lib.trimPrefix s.data.toList p.data.toList).toArray⟩, .bool (Lib.hasPrefix s.data.toList p.data.toList)]) ∧ w' = w := Any.strings_CutPrefix Tryz.lays103 s p w
def Tryz.lays101_ren : Go.Shelf.Ren := ⟨fun | 101 => 134 | 208 => 167 | 206 => 193 | n => n, fun | 9 => 9 | 4 => 4 | 3 => 3 | n => n, fun | n => n⟩
theorem Tryz.lays101 : Go.Proofs.Lays.n101 Tryz.prog Tryz.lays101_ren := {
  mixed := by kernel_rfl
  f101 := Tryz.func134.trans (congrArg some (by kernel_rfl))
  f206 := Tryz.func193.trans (congrArg some (by kernel_rfl))
  f208 := Tryz.func167.trans (congrArg some (by kernel_rfl))
  t3 := Tryz.underlying3
  a3 := Tryz.isAgg3
  z3 := Tryz.sizeOf3
  v3 := Tryz.zeroValue3
  t4 := Tryz.underlying4
  a4 := Tryz.isAgg4
  z4 := Tryz.sizeOf4
  v4 := Tryz.zeroValue4
  t9 := Tryz.underlying9
  a9 := Tryz.isAgg9
  z9 := Tryz.sizeOf9
  v9 := Tryz.zeroValue9 }
open Go.RowKit Go.Lib in
theorem Tryz.strings_TrimPrefix (s p : ByteArray) (w : World) :
    Calls Tryz.prog 134 #[.string s, .string p] w fun e w' => e = .returned (.string ⟨(Lib.trimPrefix s.data.toList p.data.toList).toArray⟩) ∧ w' = w := Any.strings_TrimPrefix Tryz.lays101 s p w
end Go.Proofs
