/- Contract: the reference's reader: user. Contract: the reference's reader: host. Contract: the reference's reader: port. Contract: the reference's reader: telephone. -/
import Derived.Test.YthfonniieaiocaaGreatDoorXl
import Derived.Lib.MinMax
set_option linter.unusedVariables false
set_option linter.unusedSimpArgs false
set_option maxRecDepth 100000
namespace Go.Proofs.YthfonniieaiocaaGreatDoor
open Go.RowKit

theorem rg_tail {P : Program} {id : Nat} {Q : Exit → Act → World → Prop} {a : Act} {w : World} {l : List Oper} (n : Nat) (hm : P.follows .mixedOrders = true) (hB : Region.lexTailB .any l.toArray n = true)
    (h : wpQuiet P l.toArray (fun w' => ∃ x : BW w, w' = x.w) (fun a' => ∀ w', (∃ x : BW w, w' = x.w) → wpList P l.toArray Q (l.drop n) a' w') (l.take n) a) : (Code.region id l.toArray true).wp P Q a w :=
  region_quiet_tail n hm hB ⟨⟨w.drew, (Below.refl _ _).drew⟩, rfl⟩ h
theorem usr_end {xs : List Int} {a k : Nat} {T : List Int} {q1 q2 : Nat × Int} (hk : untilL xs a [64] = k) (h0 : k < xs.length) (ha : a ≤ xs.length) (hf : ∀ i, a ≤ i → i < k → xs.getD i 0 ≠ 58)
    (h1 : (if k = a then (k, 5) else (0, 0)) = q1) (h2 : ctQ xs a k 0 q1 = (T, q2)) : UsrX xs a (strOfNums T) q2 (k + 1) := by
  refine ⟨h0, ?_⟩
  unfold ctQ at h2
  cases hw : wrongL (xs.take k) 0 a with
  | some p =>
    have hp := wrong_le (by omega) hw
    rw [user_wrong hk h0 hf hw]
    rw [hw] at h2
    injection h2 with e1 e2
    rw [if_neg (by omega)] at h1
    subst h1
    exact e2.symm
  | none =>
    rw [user_fine hk h0 hw]
    rw [hw] at h2
    injection h2 with e1 e2
    subst e1 e2
    by_cases hka : k = a
    · rw [if_pos hka]; rw [if_pos hka] at h1; exact h1.symm
    · rw [if_neg hka]; rw [if_neg hka] at h1; exact ⟨rfl, h1.symm, rfl⟩
theorem usr_colon {xs : List Int} {a j : Nat} {T : ByteArray} (h0 : untilL xs a [64] < xs.length) (ha : a ≤ xs.length) (haj : a ≤ j) (hjk : j < untilL xs a [64]) (hj : xs.getD j 0 = 58) (hf : ∀ i, a ≤ i → i < j → xs.getD i 0 ≠ 58) :
    UsrX xs a T (failQ (ctQ xs a j 0 (0, 0)).2 j 15) a := by
  refine ⟨ha, ?_⟩
  rw [user_colon h0 haj hjk hj hf]
  dsimp only
  unfold ctQ
  cases hw : wrongL (xs.take j) 0 a with
  | some p => exact failQ_bad (five p)
  | none => exact failQ_ok rfl
theorem usr_none {xs : List Int} {a : Nat} (h : xs.length ≤ untilL xs a [64]) (ha : a ≤ xs.length) : UsrX xs a ⟨#[]⟩ (0, 0) a := by
  refine ⟨ha, ?_⟩
  rw [user_none h]
  exact ⟨rfl, rfl, rfl⟩
set_option maxHeartbeats 4000000 in
theorem ruser_any (w : World) (b i : Nat) (s : ByteArray) (h : RdR w b s i (0, 0)) (hi : i ≤ s.size) (hs : s.size ≤ 4000000) :
    Calls Tryz.prog 75 #[.pointer (some ⟨b, 0, none⟩)] w fun e w' => ∃ T z j, e = .returned (.string T) ∧ RdX w b s j z w' ∧ UsrX (byteL s) i T z j := by
  have H0 := kd (PX.start h)
  have HL := kd (byteL_len s)
  have HR := kd h
  have UN := kd (runtil_any w b i s ⟨#[64]⟩ (0, 0) h hi hs (by decide))
  have UL := until_le (xs := byteL s) (a := i) (st := [64]) (by rw [HL.out]; exact hi)
  rw [show byteL ⟨#[64]⟩ = [64] by rfl] at UN
  rw [HL.out] at UL
  have k0 := h.cell 0
  have k1 := h.cell 1
  simp only [rdC, List.getElem?_cons_succ, List.getElem?_cons_zero] at k0 k1
  have NONE := kd (fun h => usr_none (xs := byteL s) (a := i) h (by rw [HL.out]; exact hi))
  have COL := kd (fun (j : Nat) (T : ByteArray) h0 haj hjk hj hf => usr_colon (xs := byteL s) (a := i) (j := j) (T := T) h0 (by rw [HL.out]; exact hi) haj hjk hj hf)
  have UEND := kd (fun (k : Nat) (T : List Int) q1 q2 hk h0 hf h1 h2 => usr_end (xs := byteL s) (a := i) (k := k) (T := T) (q1 := q1) (q2 := q2) hk h0 (by rw [HL.out]; exact hi) hf h1 h2)
  rw [HL.out] at NONE
  obtain ⟨k, hk⟩ : ∃ k, untilL (byteL s) i [64] = k := ⟨_, rfl⟩
  rw [hk] at UN UL NONE COL
  simp only [HL.out] at COL UEND
  have HK := kd hk
  obtain ⟨ul1, ul2⟩ := UL
  clear h hk
  by_cases hks : k = s.size
  · subst hks
    have N := kd (NONE.out (Nat.le_refl _))
    have d0 : ((s.size : Int) == (s.size : Int)) = true := by simp
    clear NONE COL UEND
    go_enter Tryz.func75, Tryz.ntmps75
    go_wp2_with (go_at_call 74; refine UN.out.mono ?_; rintro _ w1 ⟨rfl, rfl⟩)
    go_ret
    exact ⟨_, _, _, rfl, .refl HR.out, N.out⟩
  · have hlt0 : k < s.size := by omega
    have d0 : ((k : Int) == (s.size : Int)) = false := by simp; omega
    have es : (k : Int) ≤ (s.size : Int) := by omega
    clear NONE
    go_enter Tryz.func75, Tryz.ntmps75
    go_wp2_with (go_at_call 74; refine UN.out.mono ?_; rintro _ w1 ⟨rfl, rfl⟩)
    clear d0 UN
    go_loopw [4] (fun v wr => ∃ j : Nat, i ≤ j ∧ j ≤ k ∧ v = .int .i64 j ∧ w = wr ∧ Hid (∀ m, i ≤ m → m < j → (byteL s).getD m 0 ≠ 58)) (fun v _ => k - (intOf v).toNat)
    case atStart => exact ⟨i, Nat.le_refl _, ul1, rfl, rfl, kd (fun m h1 h2 => by omega)⟩
    case round =>
      obtain ⟨j, hij, hj, rfl, rfl, HF⟩ := hrel
      by_cases hlt : j < k
      · have hd : decide ((j : Int) < (k : Int)) = true := by simp; omega
        have d1 := fun w => idx_str s (i := j) (by omega) (z := (j : Int)) rfl w
        by_cases hx : (byteL s).getD j 0 = 58
        · have US := kd (fun T => COL.out j T hlt0 hij hlt hx HF.out)
          rw [hx] at d1
          have k0' : ∀ x : BW w, x.w.cell? ⟨b, 0, none⟩ = some (.string s) := fun x => HR.out.later x 0
          have k1' : ∀ x : BW w, x.w.cell? ⟨b, 1, none⟩ = some (.int .i64 (i : Nat)) := fun x => HR.out.later x 1
          clear COL UEND HF hx
          go_upto_region 8 with (fail)
          refine rg_tail 8 (by kernel_rfl) (by kernel_rfl) ?_
          simp only [List.take_succ_cons, List.take_zero, List.drop_succ_cons, List.drop_zero]
          repeat go_big_quiet_step (fail)
          refine wpQuiet_nil ?_
          rintro _ ⟨y, rfl⟩
          have H1 := kd ((H0.out.call y.h).new 93 (rdC s i (0, 0)))
          have CT := kd (rcontQ_any _ _ i j s (0, 0) 0 (Row.new y.w 93 (rdC s i (0, 0))) hij (by omega) hs)
          have NB := kd (show w.heap.size ≤ y.w.heap.size from y.h.size)
          unfold rdC at H1 CT
          clear k0 k1 k0' k1'
          go_upto_region 10 with (go_at_call 139; refine CT.out.mono ?_; rintro _ w2 ⟨j2, rfl, h2⟩)
          have H2 := kd (H1.out.own h2.r h2.g (fun r hr => by cases hr))
          generalize (ctQ (byteL s) i j 0 (0, 0)).2 = q1 at *
          have P2 := kd H2.out.head
          have k2 : ∀ x : BW w2, x.w.cell? ⟨y.w.heap.size, 2, none⟩ = some (.int .i64 (q1.1 : Nat)) := fun x => P2.out.later x 2
          have k3 : ∀ x : BW w2, x.w.cell? ⟨y.w.heap.size, 3, none⟩ = some (.int .u8 q1.2) := fun x => P2.out.later x 3
          clear h2 CT H1
          refine rg_tail 9 (by kernel_rfl) (by kernel_rfl) ?_
          simp only [List.take_succ_cons, List.take_zero, List.drop_succ_cons, List.drop_zero]
          repeat go_big_quiet_step (fail)
          refine wpQuiet_nil ?_
          rintro _ ⟨y2, rfl⟩
          have H3 := kd (H2.out.call y2.h)
          clear k2 k3
          go_upto_region 11 with (go_at_call 140; refine (rfail_any _ b i q1.1 s (0, 0) q1.2 H3.out.r).mono ?_; rintro _ w4 ⟨rfl, h4⟩)
          have h5 := h4
          rw [failQ_ok (q := (0, 0)) rfl] at h5
          have H4 := kd (H3.out.then h5)
          clear h4 h5
          go_wp2_with (go_at_call 140; refine (rfail_any _ b i j s (q1.1, q1.2) 15 H4.out.r).mono ?_; rintro _ w5 ⟨rfl, h6⟩; have H5 := kd (H4.out.then h6))
          go_ret
          exact ⟨_, _, _, rfl, H5.out.end, US.out _⟩
        · have hx2 : ((byteL s).getD j 0 == 58) = false := by simpa using hx
          have HF2 := kd (show ∀ m, i ≤ m → m < j + 1 → (byteL s).getD m 0 ≠ 58 from fun m h1 h2 => by
            by_cases e : m = j
            · subst e; exact hx
            · exact HF.out m h1 (by omega))
          clear HF COL UEND hx
          generalize (byteL s).getD j 0 = x at *
          go_wp2_with fail
          go_roundw
          case rel => exact ⟨j + 1, by omega, by omega, by go_num, by first | rfl | trivial, HF2⟩
          case measure => simp [intOf]; omega
      · obtain rfl : j = k := by omega
        have hd : decide ((j : Int) < (j : Int)) = false := by simp
        have UE := kd (fun (T : List Int) q1 q2 h1 h2 => UEND.out j T q1 q2 HK.out hlt0 HF.out h1 h2)
        clear COL UEND HF hlt
        by_cases hji : j = i
        · subst hji
          have e1 : ((j : Int) == (j : Int)) = true := by simp
          have UE2 := kd (fun (T : List Int) q2 h2 => UE.out T (j, 5) q2 (if_pos rfl) h2)
          clear UE
          go_upto_region 15 with (go_at_call 140; refine (rfail_any _ b j j s (0, 0) 5 HR.out).mono ?_; rintro _ w2 ⟨rfl, h2⟩)
          rw [failQ_ok (q := (0, 0)) rfl] at h2
          have H2 := kd (H0.out.then h2)
          have CT := kd (rcontQ_any _ b j j s (j, 5) 0 h2.r (Nat.le_refl _) hi hs)
          clear h2 k0 k1
          obtain ⟨⟨T, q2⟩, hc⟩ : ∃ c, ctQ (byteL s) j j 0 (j, 5) = c := ⟨_, rfl⟩
          rw [hc] at CT
          have U3 := kd (UE2.out T q2 hc)
          clear UE2 hc
          go_upto_region 16 with (go_at_call 139; refine CT.out.mono ?_; rintro _ w3 ⟨j3, rfl, h3⟩)
          have H3 := kd (H2.out.then h3)
          have k1 := H3.out.r.cell 1
          have f1 := H3.out.r.frozen 1
          simp only [rdC, List.getElem?_cons_succ, List.getElem?_cons_zero] at k1
          have H4 := kd (H3.out.atz (j + 1) (z := (j : Int) + 1) rfl)
          clear h3 CT
          go_wp2_with fail
          go_ret
          exact ⟨_, _, _, rfl, H4.out.end, U3.out⟩
        · have e1 : ((j : Int) == (i : Int)) = false := by simp; omega
          have UE2 := kd (fun (T : List Int) q2 h2 => UE.out T (0, 0) q2 (if_neg hji) h2)
          clear UE
          have CT := kd (rcontQ_any _ b i j s (0, 0) 0 HR.out hij (by omega) hs)
          obtain ⟨⟨T, q2⟩, hc⟩ : ∃ c, ctQ (byteL s) i j 0 (0, 0) = c := ⟨_, rfl⟩
          rw [hc] at CT
          have U3 := kd (UE2.out T q2 hc)
          clear UE2 hc
          go_upto_region 16 with (go_at_call 139; refine CT.out.mono ?_; rintro _ w3 ⟨j3, rfl, h3⟩)
          have H3 := kd (H0.out.then h3)
          clear k0 k1
          have k1 := H3.out.r.cell 1
          have f1 := H3.out.r.frozen 1
          simp only [rdC, List.getElem?_cons_succ, List.getElem?_cons_zero] at k1
          have H4 := kd (H3.out.atz (j + 1) (z := (j : Int) + 1) rfl)
          clear h3 CT
          go_wp2_with fail
          go_ret
          exact ⟨_, _, _, rfl, H4.out.end, U3.out⟩
end Go.Proofs.YthfonniieaiocaaGreatDoor
namespace Go.Proofs.YthfonniieaiocaaGreatDoor
open Go.RowKit

theorem hst_bad {xs : List Int} {i : Nat} {q : Nat × Int} {T : ByteArray} (h : q.2 ≠ 0) (hi : i ≤ xs.length) : HstX xs i q T q i := ⟨hi, fun _ => rfl, fun e => by rw [e] at h; exact absurd rfl h⟩
theorem hst_no {xs : List Int} {i k : Nat} {T : ByteArray} (hk : hostEnd xs i = k) (hi : i ≤ xs.length) (h : hostL (subL xs i k) = none) : HstX xs i (0, 0) T (i, 5) k := by
  refine ⟨by rw [← hk]; exact (hostEnd_le hi).2, fun h => absurd rfl h, fun _ => ?_⟩
  rw [hk, h]
theorem hst_yes {xs h : List Int} {i k : Nat} (hk : hostEnd xs i = k) (hi : i ≤ xs.length) (h1 : hostL (subL xs i k) = some h) : HstX xs i (0, 0) (strOfNums h) (0, 0) k := by
  refine ⟨by rw [← hk]; exact (hostEnd_le hi).2, fun h => absurd rfl h, fun _ => ?_⟩
  rw [hk, h1]
  exact ⟨rfl, rfl, rfl⟩
set_option maxHeartbeats 4000000 in
theorem rdhost_any (w : World) (b i : Nat) (s : ByteArray) (q : Nat × Int) (hq : q = (0, 0) ∨ q.2 ≠ 0) (h : RdR w b s i q) (hi : i ≤ s.size) (hs : s.size ≤ 4000000) :
    Calls Tryz.prog 76 #[.pointer (some ⟨b, 0, none⟩)] w fun e w' => ∃ T z j, e = .returned (.string T) ∧ RdX w b s j z w' ∧ HstX (byteL s) i q T z j := by
  have HL := kd (byteL_len s)
  have HR := kd h
  have k3 := h.cell 3
  simp only [rdC, List.getElem?_cons_succ, List.getElem?_cons_zero] at k3
  rcases hq with rfl | hq
  case inr =>
    have e1 : (q.2 != 0) = true := by simpa using hq
    have X := kd (hst_bad (xs := byteL s) (i := i) (q := q) (T := ⟨#[]⟩) hq (by rw [HL.out]; exact hi))
    clear h hq
    generalize hqk : q.2 = qk at *
    replace hqk := kd hqk
    go_enter Tryz.func76, Tryz.ntmps76
    go_wp2_with fail
    go_ret
    exact ⟨_, _, _, rfl, .refl HR.out, X.out⟩
  · have UN1 := kd (runtil_any w b i s ⟨#[58, 59, 63]⟩ (0, 0) h hi hs (by decide))
    have UN2 := kd (fun (x : BW w) => runtil_any x.w b i s ⟨#[93]⟩ (0, 0) (h.below x.h) hi hs (by decide))
    rw [show byteL ⟨#[58, 59, 63]⟩ = [58, 59, 63] by rfl] at UN1
    simp only [show byteL ⟨#[93]⟩ = [93] by rfl] at UN2
    have IS := kd (ris_any w b i s (0, 0) 91 h)
    rw [isQ_at] at IS
    have UL := until_le (xs := byteL s) (a := i) (st := [93]) (by rw [HL.out]; exact hi)
    have KE := hostEnd_le (xs := byteL s) (a := i) (by rw [HL.out]; exact hi)
    rw [HL.out] at UL KE
    have HE := kd (show hostEnd (byteL s) i = if atL (byteL s) i 91 = true then min (untilL (byteL s) i [93] + 1) s.size else untilL (byteL s) i [58, 59, 63] by unfold hostEnd; rw [HL.out])
    have NO := kd (fun (k : Nat) (T : ByteArray) hk h => hst_no (xs := byteL s) (i := i) (k := k) (T := T) hk (by rw [HL.out]; exact hi) h)
    have YES := kd (fun (k : Nat) (h : List Int) hk h1 => hst_yes (xs := byteL s) (i := i) (k := k) (h := h) hk (by rw [HL.out]; exact hi) h1)
    obtain ⟨k, hk⟩ : ∃ k, hostEnd (byteL s) i = k := ⟨_, rfl⟩
    rw [hk] at HE KE
    have NO2 := kd (fun T => NO.out k T hk)
    have YES2 := kd (fun h => YES.out k h hk)
    clear NO YES hk h
    obtain ⟨ke1, ke2⟩ := KE
    generalize untilL (byteL s) i [58, 59, 63] = ka at *
    generalize untilL (byteL s) i [93] = kb at *
    generalize atL (byteL s) i 91 = s91 at *
    go_enter Tryz.func76, Tryz.ntmps76
    go_upto_region 4 with (go_at_call 74; refine UN1.out.mono ?_; rintro _ w1 ⟨rfl, rfl⟩)
    clear UN1 k3
    go_upto_if 14 with (go_at_call 141; refine IS.out.mono ?_; rintro _ w2 ⟨rfl, hb2⟩)
    go_cut [3] (fun v wx => v = .int .i64 (k : Nat) ∧ Hid (Below w.heap.size w wx))
    case first =>
      cases s91 with
      | false =>
        have E := kd (HE.out.trans (if_neg (by decide)))
        obtain rfl := E.out
        go_wp2_with fail
        go_meet
        exact ⟨rfl, kd hb2⟩
      | true =>
        have E := kd (HE.out.trans (if_pos rfl))
        have E2 : min ((kb : Int) + 1) (s.size : Int) = (k : Int) := by rw [E.out]; omega
        go_upto_region 5 with (fail)
        have q0 : ∀ x : BW w2, x.w.cell? ⟨b, 0, none⟩ = some (.string s) := fun x => (HR.out.below hb2).later x 0
        have UN3 := kd (fun (x : BW w2) => show Calls Tryz.prog 74 #[.pointer (some ⟨b, 0, none⟩), .string ⟨#[93]⟩] x.w (fun e w' => e = .returned (.int .i64 (kb : Nat)) ∧ Below x.w.heap.size x.w w') from (UN2.out ⟨x.w, bthen hb2 x.h⟩).mono (R' := fun e w' => e = .returned (.int .i64 (kb : Nat)) ∧ Below x.w.heap.size x.w w') fun e w' h => ⟨h.1, h.2 ▸ Below.refl _ _⟩)
        have B2 := kd hb2
        clear hb2
        refine region_bw (by kernel_rfl) (by kernel_rfl) ?_
        go_big_quiet_step (fail)
        go_big_quiet_step (exact calls_bw (UN3.out _))
        repeat go_big_quiet_step (fail)
        refine wpQuiet_nil ?_
        rintro _ ⟨x, rfl⟩
        have B3 := kd (bthen B2.out x.h)
        clear q0
        generalize x.w = w4 at *
        go_wp2_with fail
        go_meet
        exact ⟨rfl, B3⟩
    case rest =>
    obtain ⟨rfl, B1⟩ := hcut
    clear IS UN2 HE UL
    have q0 : ∀ x : BW wc, x.w.cell? ⟨b, 0, none⟩ = some (.string s) := fun x => (HR.out.below B1.out).later x 0
    have q1 : ∀ x : BW wc, x.w.cell? ⟨b, 1, none⟩ = some (.int .i64 (i : Nat)) := fun x => (HR.out.below B1.out).later x 1
    have ZL : byteL (s.extract i k) = subL (byteL s) i k := byteL_extract s i k
    have ZS : (s.extract i k).size ≤ 4000000 := by rw [← byteL_len, ZL]; have := (subL_sub (byteL s) i k).length_le; rw [byteL_len] at this; omega
    have HO := kd (fun w => rhost_any (s.extract i k) w ZS)
    rw [ZL] at HO
    clear ZL ZS
    cases hh : hostL (subL (byteL s) i k) with
    | none =>
      rw [hh] at HO
      have N := kd (fun T => NO2.out T hh)
      clear NO2 YES2 hh
      unfold hostV at HO
      go_upto_region 6 with (fail)
      refine region_bw (by kernel_rfl) (by kernel_rfl) ?_
      repeat go_big_quiet_step (fail)
      go_big_quiet_step (exact calls_bw (HO.out _))
      repeat go_big_quiet_step (fail)
      refine wpQuiet_nil ?_
      rintro _ ⟨x, rfl⟩
      have R2 := kd ((RdX.refl HR.out).call (bthen B1.out x.h))
      clear q0 q1 HO
      generalize x.w = w4 at *
      have k1 := R2.out.r.cell 1
      simp only [rdC, List.getElem?_cons_succ, List.getElem?_cons_zero] at k1
      go_upto_region 9 with (go_at_call 140; refine (rfail_any _ b i i s (0, 0) 5 R2.out.r).mono ?_; rintro _ w5 ⟨rfl, h5⟩)
      rw [failQ_ok (q := (0, 0)) rfl] at h5
      have R3 := kd (R2.out.then h5)
      clear h5 k1
      have f1 := R3.out.r.frozen 1
      have k1 := R3.out.r.cell 1
      simp only [rdC, List.getElem?_cons_succ, List.getElem?_cons_zero] at k1
      have R4 := kd (R3.out.at k)
      go_wp2_with fail
      go_ret
      exact ⟨_, _, _, rfl, R4.out, N.out _⟩
    | some hh2 =>
      rw [hh] at HO
      have Y := kd (YES2.out hh2 hh)
      clear NO2 YES2 hh
      unfold hostV at HO
      go_upto_region 6 with (fail)
      refine region_bw (by kernel_rfl) (by kernel_rfl) ?_
      repeat go_big_quiet_step (fail)
      go_big_quiet_step (exact calls_bw (HO.out _))
      repeat go_big_quiet_step (fail)
      refine wpQuiet_nil ?_
      rintro _ ⟨x, rfl⟩
      have R2 := kd ((RdX.refl HR.out).call (bthen B1.out x.h))
      clear q0 q1 HO
      generalize x.w = w4 at *
      have f1 := R2.out.r.frozen 1
      have k1 := R2.out.r.cell 1
      simp only [rdC, List.getElem?_cons_succ, List.getElem?_cons_zero] at k1
      have R4 := kd (R2.out.at k)
      go_wp2_with fail
      go_ret
      exact ⟨_, _, _, rfl, R4.out, Y.out⟩
end Go.Proofs.YthfonniieaiocaaGreatDoor
namespace Go.Proofs.YthfonniieaiocaaGreatDoor
open Go.RowKit

theorem prt_none {xs : List Int} {i : Nat} {q : Nat × Int} {n : Int} (hq : q = (0, 0) ∨ q.2 ≠ 0) (hi : i ≤ xs.length) (h : isQ xs i q 58 = false) (hc : ¬ (i < xs.length ∧ isQ xs i q 59 = false ∧ isQ xs i q 63 = false)) : PrtX xs i q 0 q i := by
  refine ⟨hi, fun _ => rfl, fun e => ?_⟩
  subst e
  rw [isQ_at] at h hc
  rw [isQ_at] at hc
  unfold portL
  rw [if_neg (by rw [h]; decide), if_neg hc]
  exact ⟨rfl, rfl, rfl⟩
theorem prt_bad {xs : List Int} {i : Nat} {q : Nat × Int} (hq : q = (0, 0) ∨ q.2 ≠ 0) (hi : i ≤ xs.length) (h : isQ xs i q 58 = false) (hc : i < xs.length ∧ isQ xs i q 59 = false ∧ isQ xs i q 63 = false) : PrtX xs i q 0 (failQ q i 5) i := by
  refine ⟨hi, fun h => failQ_bad h, fun e => ?_⟩
  subst e
  rw [isQ_at] at h hc
  rw [isQ_at] at hc
  unfold portL
  rw [if_neg (by rw [h]; decide), if_pos hc]
  exact failQ_ok rfl
theorem prt_num {xs : List Int} {i k : Nat} {n e : Int} (hi : i < xs.length) (h : atL xs i 58 = true) (hk : untilL xs (i + 1) [59, 63] = k) (hd : decnL (subL xs (i + 1) k) = (n, e)) :
    PrtX xs i (0, 0) n (if n < 1 ∨ 65535 < n then failQ (if e ≠ 0 then (i + 1, e) else (0, 0)) (i + 1) 3 else if e ≠ 0 then (i + 1, e) else (0, 0)) k := by
  have hu := until_le (xs := xs) (a := i + 1) (st := [59, 63]) hi
  rw [hk] at hu
  refine ⟨hu.2, fun h => absurd rfl h, fun _ => ?_⟩
  unfold portL
  rw [if_pos h]
  dsimp only
  rw [hk, hd]
  dsimp only
  by_cases he : e ≠ 0
  · rw [if_pos he, if_pos he]
    show (if n < 1 ∨ 65535 < n then failQ (i + 1, e) (i + 1) 3 else (i + 1, e)) = (i + 1, e)
    by_cases h1 : n < 1 ∨ 65535 < n
    · rw [if_pos h1]; exact failQ_bad (q := (i + 1, e)) he
    · rw [if_neg h1]
  · rw [if_neg he, if_neg he]
    by_cases h1 : n < 1 ∨ 65535 < n
    · rw [if_pos h1, if_pos h1]; rfl
    · rw [if_neg h1, if_neg h1]; exact ⟨rfl, rfl, rfl⟩
set_option maxHeartbeats 4000000 in
theorem rport_any (w : World) (b i : Nat) (s : ByteArray) (q : Nat × Int) (hq : q = (0, 0) ∨ q.2 ≠ 0) (h : RdR w b s i q) (hi : i ≤ s.size) (hs : s.size ≤ 4000000) :
    Calls Tryz.prog 77 #[.pointer (some ⟨b, 0, none⟩)] w fun e w' => ∃ n z j, e = .returned (.int .i64 n) ∧ RdX w b s j z w' ∧ PrtX (byteL s) i q n z j := by
  have HL := kd (byteL_len s)
  have HR := kd h
  have IS := kd (ris_any w b i s q 58 h)
  cases h58 : isQ (byteL s) i q 58 with
  | false =>
    have NONE := kd (prt_none (n := 0) hq (by rw [HL.out]; exact hi) h58)
    have BAD := kd (prt_bad hq (by rw [HL.out]; exact hi) h58)
    rw [HL.out] at NONE BAD
    rw [h58] at IS
    have I59 := kd (fun w h => ris_any w b i s q 59 h)
    have I63 := kd (fun w h => ris_any w b i s q 63 h)
    clear h h58
    go_enter Tryz.func77, Tryz.ntmps77
    go_upto_region 2 with (go_at_call 141; refine IS.out.mono ?_; rintro _ w1 ⟨rfl, hb1⟩)
    have R1 := kd ((RdX.refl HR.out).call hb1)
    have q0 : ∀ x : BW w1, x.w.cell? ⟨b, 0, none⟩ = some (.string s) := fun x => R1.out.r.later x 0
    have q1 : ∀ x : BW w1, x.w.cell? ⟨b, 1, none⟩ = some (.int .i64 (i : Nat)) := fun x => R1.out.r.later x 1
    have IS59 := kd (fun (x : BW w1) => I59.out x.w (R1.out.r.below x.h))
    have IS63 := kd (fun (x : BW w1) => I63.out x.w (R1.out.r.below x.h))
    clear IS I59 I63 hb1
    by_cases hlt : i < s.size
    · have hd : decide ((i : Int) < (s.size : Int)) = true := by simp; omega
      cases h59 : isQ (byteL s) i q 59 with
      | true =>
        rw [h59] at IS59 NONE BAD
        have N := kd (NONE.out (fun h => by cases h.2.1))
        clear NONE BAD
        refine region_bw (by kernel_rfl) (by kernel_rfl) ?_
        repeat go_big_quiet_step (fail)
        go_big_quiet_step (exact calls_bw (IS59.out _))
        repeat go_big_quiet_step (fail)
        refine wpQuiet_nil ?_
        rintro _ ⟨x, rfl⟩
        have R2 := kd (R1.out.call x.h)
        clear q0 q1 IS59 IS63
        generalize x.w = w4 at *
        go_wp2_with fail
        go_ret
        exact ⟨_, _, _, rfl, R2.out, N.out⟩
      | false =>
        rw [h59] at IS59 NONE BAD
        cases h63 : isQ (byteL s) i q 63 with
        | true =>
          rw [h63] at IS63 NONE BAD
          have N := kd (NONE.out (fun h => by cases h.2.2))
          clear NONE BAD
          refine region_bw (by kernel_rfl) (by kernel_rfl) ?_
          repeat go_big_quiet_step (fail)
          go_big_quiet_step (exact calls_bw (IS59.out _))
          repeat go_big_quiet_step (fail)
          go_big_quiet_step (exact calls_bw (IS63.out _))
          repeat go_big_quiet_step (fail)
          refine wpQuiet_nil ?_
          rintro _ ⟨x, rfl⟩
          have R2 := kd (R1.out.call x.h)
          clear q0 q1 IS59 IS63
          generalize x.w = w4 at *
          go_wp2_with fail
          go_ret
          exact ⟨_, _, _, rfl, R2.out, N.out⟩
        | false =>
          rw [h63] at IS63 NONE BAD
          have N := kd (BAD.out ⟨hlt, rfl, rfl⟩)
          clear NONE BAD
          refine region_bw (by kernel_rfl) (by kernel_rfl) ?_
          repeat go_big_quiet_step (fail)
          go_big_quiet_step (exact calls_bw (IS59.out _))
          repeat go_big_quiet_step (fail)
          go_big_quiet_step (exact calls_bw (IS63.out _))
          repeat go_big_quiet_step (fail)
          refine wpQuiet_nil ?_
          rintro _ ⟨x, rfl⟩
          have R2 := kd (R1.out.call x.h)
          clear q0 q1 IS59 IS63
          generalize x.w = w4 at *
          have k1 := R2.out.r.cell 1
          simp only [rdC, List.getElem?_cons_succ, List.getElem?_cons_zero] at k1
          go_wp2_with (go_at_call 140; refine (rfail_any _ b i i s q 5 R2.out.r).mono ?_; rintro _ w5 ⟨rfl, h5⟩; have R3 := kd (R2.out.then h5))
          go_ret
          exact ⟨_, _, _, rfl, R3.out, N.out⟩
    · have hd : decide ((i : Int) < (s.size : Int)) = false := by simp; omega
      have N := kd (NONE.out (fun h => hlt h.1))
      clear NONE BAD
      refine region_bw (by kernel_rfl) (by kernel_rfl) ?_
      repeat go_big_quiet_step (fail)
      refine wpQuiet_nil ?_
      rintro _ ⟨x, rfl⟩
      have R2 := kd (R1.out.call x.h)
      clear q0 q1 IS59 IS63
      generalize x.w = w4 at *
      go_wp2_with fail
      go_ret
      exact ⟨_, _, _, rfl, R2.out, N.out⟩
  | true =>
    obtain ⟨hlt, hq0⟩ := isQ_lt h58
    obtain rfl : q = (0, 0) := hq.resolve_right (fun h => h hq0)
    rw [HL.out] at hlt
    rw [h58] at IS
    have hd : decide ((i : Int) < (s.size : Int)) = true := by simp; omega
    have hk := until_le (xs := byteL s) (a := i + 1) (st := [59, 63]) (by rw [HL.out]; exact hlt)
    rw [HL.out] at hk
    obtain ⟨k, ek⟩ : ∃ k, untilL (byteL s) (i + 1) [59, 63] = k := ⟨_, rfl⟩
    obtain ⟨⟨n, e⟩, hn⟩ : ∃ d, decnL (subL (byteL s) (i + 1) k) = d := ⟨_, rfl⟩
    rw [isQ_at] at h58
    have PX := kd (prt_num (xs := byteL s) (i := i) (by rw [HL.out]; exact hlt) h58 ek hn)
    have UN := kd (fun w h => runtil_any w b (i + 1) s ⟨#[59, 63]⟩ (0, 0) h hlt hs (by decide))
    simp only [show byteL ⟨#[59, 63]⟩ = [59, 63] by rfl] at UN
    rw [ek] at hk UN
    have ZL : byteL (s.extract (i + 1) k) = subL (byteL s) (i + 1) k := byteL_extract s (i + 1) k
    have ZS : (s.extract (i + 1) k).size ≤ 4000000 := by rw [← byteL_len, ZL]; have := (subL_sub (byteL s) (i + 1) k).length_le; rw [byteL_len] at this; omega
    have NU := kd (fun w => (rnumb_any (s.extract (i + 1) k) w ZS).mono (R' := fun r w' => r = .returned (.tuple #[.int .i64 n, .int .u8 e]) ∧ Below w.heap.size w w') fun r w' h => ⟨by rw [h.1, ZL, hn]; rfl, h.2 ▸ Below.refl _ _⟩)
    clear ZL ZS hn ek h58 hq h hq0
    obtain ⟨hk1, hk2⟩ := hk
    go_enter Tryz.func77, Tryz.ntmps77
    go_upto_region 5 with (go_at_call 141; refine IS.out.mono ?_; rintro _ w1 ⟨rfl, hb1⟩)
    have R1 := kd ((RdX.refl HR.out).call hb1)
    clear IS hb1
    have k1 := R1.out.r.cell 1
    have f1 := R1.out.r.frozen 1
    simp only [rdC, List.getElem?_cons_succ, List.getElem?_cons_zero] at k1
    have R2 := kd (show RdX w b s (i + 1) (0, 0) (w1.setCell ⟨b, 1, none⟩ (.int .i64 ((i : Int) + 1))) from R1.out.at (i + 1))
    go_upto_region 6 with (fail)
    clear k1 f1 R1
    generalize w1.setCell ⟨b, 1, none⟩ (.int .i64 ((i : Int) + 1)) = w2 at *
    go_upto_region 7 with (go_at_call 74; refine (UN.out _ R2.out.r).mono ?_; rintro _ w3 ⟨rfl, rfl⟩)
    have q0 : ∀ x : BW w2, x.w.cell? ⟨b, 0, none⟩ = some (.string s) := fun x => R2.out.r.later x 0
    have q1 : ∀ x : BW w2, x.w.cell? ⟨b, 1, none⟩ = some (.int .i64 ((i + 1 : Nat) : Int)) := fun x => R2.out.r.later x 1
    refine region_bw (by kernel_rfl) (by kernel_rfl) ?_
    repeat go_big_quiet_step (fail)
    go_big_quiet_step (exact calls_bw (NU.out _))
    repeat go_big_quiet_step (fail)
    refine wpQuiet_nil ?_
    rintro _ ⟨x, rfl⟩
    have R3 := kd (R2.out.call x.h)
    clear q0 q1 NU UN R2
    generalize x.w = w4 at *
    have k1 := R3.out.r.cell 1
    simp only [rdC, List.getElem?_cons_succ, List.getElem?_cons_zero] at k1
    by_cases he : e = 0
    · subst he
      have R4 := kd R3.out
      clear R3
      rw [if_neg (show ¬ ((0 : Int) ≠ 0) from fun h => h rfl)] at PX
      by_cases h1 : n < 1
      · have d1 : decide (n < 1) = true := by simp [h1]
        have hb : n < 1 ∨ 65535 < n := .inl h1
        rw [if_pos hb] at PX
        go_upto_region 12 with (go_at_call 140; refine (rfail_any _ b (i + 1) (i + 1) s (0, 0) 3 R4.out.r).mono ?_; rintro _ w6 ⟨rfl, h6⟩)
        have R5 := kd (R4.out.then h6)
        clear h6 R4 hb
        clear k1
        have f1 := R5.out.r.frozen 1
        have k1 := R5.out.r.cell 1
        simp only [rdC, List.getElem?_cons_succ, List.getElem?_cons_zero] at k1
        have R6 := kd (R5.out.at k)
        go_wp2_with fail
        go_ret
        first | exact ⟨_, _, _, rfl, R6.out, PX.out⟩ | exact ⟨_, rfl, _, _, _, R6.out, PX.out⟩
      · have d1 : decide (n < 1) = false := by simpa using h1
        by_cases h2 : 65535 < n
        · have d2 : decide (65535 < n) = true := by simp [h2]
          have hb : n < 1 ∨ 65535 < n := .inr h2
          rw [if_pos hb] at PX
          go_upto_region 12 with (go_at_call 140; refine (rfail_any _ b (i + 1) (i + 1) s (0, 0) 3 R4.out.r).mono ?_; rintro _ w6 ⟨rfl, h6⟩)
          have R5 := kd (R4.out.then h6)
          clear h6 R4 hb
          clear k1
          have f1 := R5.out.r.frozen 1
          have k1 := R5.out.r.cell 1
          simp only [rdC, List.getElem?_cons_succ, List.getElem?_cons_zero] at k1
          have R6 := kd (R5.out.at k)
          go_wp2_with fail
          go_ret
          first | exact ⟨_, _, _, rfl, R6.out, PX.out⟩ | exact ⟨_, rfl, _, _, _, R6.out, PX.out⟩
        · have d2 : decide (65535 < n) = false := by simpa using h2
          have hb : ¬ (n < 1 ∨ 65535 < n) := fun h => h.elim h1 h2
          rw [if_neg hb] at PX
          clear k1 hb
          have f1 := R4.out.r.frozen 1
          have k1 := R4.out.r.cell 1
          simp only [rdC, List.getElem?_cons_succ, List.getElem?_cons_zero] at k1
          have R6 := kd (R4.out.at k)
          go_wp2_with fail
          go_ret
          first | exact ⟨_, _, _, rfl, R6.out, PX.out⟩ | exact ⟨_, rfl, _, _, _, R6.out, PX.out⟩
    · have he1 : (e != 0) = true := by simpa using he
      rw [if_pos he] at PX
      replace he := kd he
      go_upto_region 10 with (go_at_call 140; refine (rfail_any _ b (i + 1) (i + 1) s (0, 0) e R3.out.r).mono ?_; rintro _ w5 ⟨rfl, h5⟩)
      rw [failQ_ok (q := (0, 0)) rfl] at h5
      have R4 := kd (R3.out.then h5)
      clear h5 k1 R3
      have k1 := R4.out.r.cell 1
      simp only [rdC, List.getElem?_cons_succ, List.getElem?_cons_zero] at k1
      by_cases h1 : n < 1
      · have d1 : decide (n < 1) = true := by simp [h1]
        have hb : n < 1 ∨ 65535 < n := .inl h1
        rw [if_pos hb] at PX
        go_upto_region 12 with (go_at_call 140; refine (rfail_any _ b (i + 1) (i + 1) s (i + 1, e) 3 R4.out.r).mono ?_; rintro _ w6 ⟨rfl, h6⟩)
        have R5 := kd (R4.out.then h6)
        clear h6 R4 hb
        clear k1
        have f1 := R5.out.r.frozen 1
        have k1 := R5.out.r.cell 1
        simp only [rdC, List.getElem?_cons_succ, List.getElem?_cons_zero] at k1
        have R6 := kd (R5.out.at k)
        go_wp2_with fail
        go_ret
        first | exact ⟨_, _, _, rfl, R6.out, PX.out⟩ | exact ⟨_, rfl, _, _, _, R6.out, PX.out⟩
      · have d1 : decide (n < 1) = false := by simpa using h1
        by_cases h2 : 65535 < n
        · have d2 : decide (65535 < n) = true := by simp [h2]
          have hb : n < 1 ∨ 65535 < n := .inr h2
          rw [if_pos hb] at PX
          go_upto_region 12 with (go_at_call 140; refine (rfail_any _ b (i + 1) (i + 1) s (i + 1, e) 3 R4.out.r).mono ?_; rintro _ w6 ⟨rfl, h6⟩)
          have R5 := kd (R4.out.then h6)
          clear h6 R4 hb
          clear k1
          have f1 := R5.out.r.frozen 1
          have k1 := R5.out.r.cell 1
          simp only [rdC, List.getElem?_cons_succ, List.getElem?_cons_zero] at k1
          have R6 := kd (R5.out.at k)
          go_wp2_with fail
          go_ret
          first | exact ⟨_, _, _, rfl, R6.out, PX.out⟩ | exact ⟨_, rfl, _, _, _, R6.out, PX.out⟩
        · have d2 : decide (65535 < n) = false := by simpa using h2
          have hb : ¬ (n < 1 ∨ 65535 < n) := fun h => h.elim h1 h2
          rw [if_neg hb] at PX
          clear k1 hb
          have f1 := R4.out.r.frozen 1
          have k1 := R4.out.r.cell 1
          simp only [rdC, List.getElem?_cons_succ, List.getElem?_cons_zero] at k1
          have R6 := kd (R4.out.at k)
          go_wp2_with fail
          go_ret
          first | exact ⟨_, _, _, rfl, R6.out, PX.out⟩ | exact ⟨_, rfl, _, _, _, R6.out, PX.out⟩
end Go.Proofs.YthfonniieaiocaaGreatDoor
namespace Go.Proofs.YthfonniieaiocaaGreatDoor
open Go.RowKit

theorem OX.form {w wr : World} {v : Value} {xs : List Int} (H : OX w v xs wr) : ∃ A c, v = .slice A xs.length c := by
  rcases H.o.2 with ⟨h0, h1⟩ | ⟨g, cap, cur, h1, _⟩
  · rw [h1, h0]; exact ⟨_, _, rfl⟩
  · exact ⟨_, _, h1⟩
theorem own_rdx {wr w5 : World} {B b n : Nat} {v : Value} {cs : List Value} (H : wr.ownsRow B 5 1 v n cs) (g : wr.grownBy w5 (some b)) (hb : b < B) : w5.ownsRow B 5 1 v n cs := by
  refine ⟨H.1, ?_⟩
  rcases H.2 with h0 | ⟨k, cap, cur, h1, h2, h3, h4⟩
  · exact .inl h0
  · exact .inr ⟨k, cap, cur, h1, h2, (g.block k (lt_of_block h3) (fun e => by injection e with e; omega)).trans h3, h4⟩
theorem own_elder {wr : World} {B b n o : Nat} {v u : Value} {cs : List Value} (H : wr.ownsRow B 5 1 v n cs) (hb : b < B) : (wr.setCell ⟨b, o, none⟩ u).ownsRow B 5 1 v n cs := own_rdx H (rgr_set _ _ _ _) hb
def phE (a k : Nat) (PL : List Int) : Except Nat (List Int) → Except (Nat × Int) (List Int × Nat)
  | .error i => .error (i, 5)
  | .ok d => if d = [] then .error (a, 5) else if 30 < d.length then .error (a, 4) else .ok (PL ++ d, k)
theorem phone_at {xs : List Int} {a k b0 : Nat} {sg : Bool} {T : Except Nat (List Int)} {PL : List Int} (hk : untilL xs a [59] = k) (hs : atL xs a 43 = sg) (hb : (if sg = true then a + 1 else a) = b0) (hT : telN (xs.take k) sg (xs.length + 1) b0 [] = T) (hP : (if sg = true then [43] else []) = PL) : phoneL xs a = phE a k PL T := by
  subst hk hs hb hT hP
  unfold phoneL phE
  dsimp only
  cases telN (xs.take (untilL xs a [59])) (atL xs a 43) (xs.length + 1) (if atL xs a 43 = true then a + 1 else a) [] with
  | error i => rfl
  | ok d => rfl
theorem pho_err {xs : List Int} {a i : Nat} {T : ByteArray} (ha : a ≤ xs.length) (h : phoneL xs a = .error (i, 5)) : PhoX xs a T (i, 5) a := ⟨ha, by rw [h]⟩
theorem pho_end {xs d : List Int} {a k : Nat} {PL : List Int} (hk : k ≤ xs.length) (h : phoneL xs a = if d = [] then .error (a, 5) else if 30 < d.length then .error (a, 4) else .ok (PL ++ d, k)) :
    PhoX xs a (strOfNums (PL ++ d)) (if d.length < 1 then (a, 5) else if 30 < d.length then (a, 4) else (0, 0)) k := by
  refine ⟨hk, ?_⟩
  rw [h]
  by_cases h0 : d = []
  · subst h0
    rw [if_pos rfl]; rfl
  · have hd : ¬ d.length < 1 := fun h => h0 (List.eq_nil_of_length_eq_zero (by omega))
    rw [if_neg h0, if_neg hd]
    by_cases h1 : 30 < d.length
    · rw [if_pos h1, if_pos h1]
    · rw [if_neg h1, if_neg h1]; exact ⟨rfl, rfl, rfl⟩
theorem telS_has (c : Int) : (byteL ⟨#[45, 46, 40, 41]⟩).contains c = telS c := by
  rw [show byteL ⟨#[45, 46, 40, 41]⟩ = [45, 46, 40, 41] by rfl, Bool.eq_iff_iff]
  unfold telS
  simp
def TeR (w : World) (s : ByteArray) (i k b0 : Nat) (Z PL : List Int) (sg : Bool) (T : Except Nat (List Int)) (v : Value) (j : Nat) (wr : World) : Prop :=
  ∃ (l : List Int), i ≤ j ∧ j ≤ k ∧ l.length ≤ j ∧ Hid (OX w v l wr) ∧ ((sg = true ∧ j = i ∧ l = []) ∨ (∃ f acc, b0 ≤ j ∧ s.size + 1 ≤ f + j ∧ Hid (l = PL ++ acc) ∧ Hid (T = telN Z sg f j acc)))
set_option maxHeartbeats 4000000 in
theorem rtel_any (w : World) (b i : Nat) (s : ByteArray) (h : RdR w b s i (0, 0)) (hi : i ≤ s.size) (hs : s.size ≤ 4000000) :
    Calls Tryz.prog 79 #[.pointer (some ⟨b, 0, none⟩)] w fun e w' => ∃ T z j, e = .returned (.string T) ∧ RdX w b s j z w' ∧ PhoX (byteL s) i T z j := by
  have HL := kd (byteL_len s)
  have HR := kd h
  have k1 := h.cell 1
  simp only [rdC, List.getElem?_cons_succ, List.getElem?_cons_zero] at k1
  have UN := kd (runtil_any w b i s ⟨#[59]⟩ (0, 0) h hi hs (by decide))
  rw [show byteL ⟨#[59]⟩ = [59] by rfl] at UN
  have IS := kd (ris_any w b i s (0, 0) 43 h)
  rw [isQ_at] at IS
  have UL := until_le (xs := byteL s) (a := i) (st := [59]) (by rw [HL.out]; exact hi)
  rw [HL.out] at UL
  obtain ⟨k, hk⟩ : ∃ k, untilL (byteL s) i [59] = k := ⟨_, rfl⟩
  obtain ⟨sg, hsg⟩ : ∃ sg, atL (byteL s) i 43 = sg := ⟨_, rfl⟩
  obtain ⟨b0, hb0⟩ : ∃ b0, (if sg = true then i + 1 else i) = b0 := ⟨_, rfl⟩
  obtain ⟨T, hT⟩ : ∃ T, telN ((byteL s).take k) sg ((byteL s).length + 1) b0 [] = T := ⟨_, rfl⟩
  obtain ⟨PL, hPL⟩ : ∃ PL : List Int, (if sg = true then [43] else []) = PL := ⟨_, rfl⟩
  have PE := kd (phone_at hk hsg hb0 hT hPL)
  have SG := kd (show sg = true → (byteL s).getD i 0 = 43 ∧ i + 1 ≤ k from fun e => by
    subst e
    obtain ⟨h1, h2⟩ := atL_lt (by rw [hsg]; decide)
    refine ⟨h2, ?_⟩
    rw [← hk]
    exact until_succ h1 (by rw [h2]; rfl))
  have ERR := kd (fun (j : Nat) (h : phoneL (byteL s) i = .error (j, 5)) => pho_err (T := ⟨#[]⟩) (by rw [HL.out]; exact hi) h)
  rw [hk] at UL UN
  rw [hsg] at IS
  have END := kd (fun (d : List Int) h => pho_end (xs := byteL s) (d := d) (a := i) (k := k) (PL := PL) (by rw [HL.out]; exact UL.2) h)
  have ZL := kd (show ((byteL s).take k).length = k by rw [List.length_take, HL.out]; omega)
  have ZG := kd (fun j (h : j < k) => show ((byteL s).take k).getD j 0 = (byteL s).getD j 0 from getD_take h)
  have TE := kd hT.symm
  rw [HL.out] at TE
  have HB0 := kd hb0; have HPL := kd hPL
  obtain ⟨ul1, ul2⟩ := UL
  have es : (k : Int) ≤ (s.size : Int) := by omega
  clear hT hk hsg hb0 hPL h
  generalize (byteL s).take k = Z at *
  generalize phoneL (byteL s) i = R at *
  go_enter Tryz.func79, Tryz.ntmps79
  go_upto_region 4 with (first
    | (go_at_call 74; refine UN.out.mono ?_; rintro _ w1 ⟨rfl, rfl⟩)
    | (go_at_call 141; refine IS.out.mono ?_; rintro _ w1 ⟨rfl, hb1⟩))
  clear UN IS k1
  have k1 : w1.cell? ⟨b, 1, none⟩ = some (.int .i64 (i : Nat)) := (HR.out.below hb1).cell 1
  have B1 := kd hb1
  clear hb1
  go_upto_region 6 with (fail)
  clear k1
  go_loopw [6, 7] (fun v vj wr => ∃ (j : Nat) (v' : Value), v' = v ∧ vj = .int .i64 j ∧ Hid (TeR w s i k b0 Z PL sg T v' j wr)) (fun _ v _ => k - (intOf v).toNat)
  case atStart =>
    refine ⟨i, _, rfl, rfl, kd ⟨[], Nat.le_refl _, ul1, Nat.zero_le _, kd ⟨World.ownsRow_nil _ _ _ _, B1.out⟩, ?_⟩⟩
    cases sg with
    | true => exact .inl ⟨rfl, rfl, rfl⟩
    | false =>
      have e1 := HB0.out; have e2 := HPL.out
      rw [if_neg (by decide)] at e1 e2
      subst e1 e2
      exact .inr ⟨s.size + 1, [], Nat.le_refl _, by omega, kd rfl, TE.out⟩
  case round =>
    obtain ⟨j, v, rfl, rfl, HT⟩ := hrel
    obtain ⟨l, hij, hjk, hl, HO, HC⟩ := HT.out
    clear HT B1
    have R1 := kd ((RdX.refl HR.out).call HO.out.bw)
    have k0 := R1.out.r.cell 0
    simp only [rdC, List.getElem?_cons_succ, List.getElem?_cons_zero] at k0
    by_cases hlt : j < k
    · have hd : decide ((j : Int) < (k : Int)) = true := by simp; omega
      have d1 := fun w => idx_str s (i := j) (by omega) (z := (j : Int)) rfl w
      have DG := kd (fun c w => rdigit_any c w)
      have CN := kd (fun c w => rcontains_any ⟨#[45, 46, 40, 41]⟩ c w (by decide))
      simp only [telS_has] at CN
      rcases HC with ⟨rfl, rfl, rfl⟩ | ⟨f, acc, hbj, hf, HLE, HTE⟩
      · have e1 := HB0.out; have e2 := HPL.out
        rw [if_pos rfl] at e1 e2
        subst e1 e2
        have hx := (SG.out rfl).1
        rw [hx] at d1
        have DG2 := kd (DG.out 43)
        rw [show isDig 43 = false by rfl] at DG2
        have ej : ((j : Int) == (j : Int)) = true := by simp
        clear DG CN hx ERR END PE SG
        go_wp2_with (first
          | (go_at_call 95; refine (DG2.out _).mono ?_; rintro e w' ⟨rfl, rfl⟩)
          | (with_reducible refine wpList_push1 rfl (.tmp 55) (.tmp 57) rfl _ [] rfl HO.out 43 rfl (by decide) ?_))
        intro v3 w3 L3 E3 l3 M3
        go_wp2_with fail
        go_roundw
        case rel => exact ⟨j + 1, _, rfl, by go_num, kd ⟨L3, by omega, by omega, by rw [l3]; simp, M3, .inr ⟨s.size + 1, [], Nat.le_refl _, by omega, kd (by rw [E3.out]; rfl), TE.out⟩⟩⟩
        case measure => simp [intOf]; omega
      · obtain ⟨g, rfl⟩ : ∃ g, f = g + 1 := ⟨f - 1, by omega⟩
        have S1 := kd (fun h => HTE.out.trans (tel_more (sg := sg) (f := g) (acc := acc) (by rw [ZL.out]; exact hlt) h))
        have S2 := kd (fun h h2 => HTE.out.trans (tel_skip (sg := sg) (f := g) (acc := acc) (by rw [ZL.out]; exact hlt) h h2))
        have S3 := kd (fun h h2 => HTE.out.trans (tel_bad (sg := sg) (f := g) (acc := acc) (by rw [ZL.out]; exact hlt) h h2))
        rw [ZG.out j hlt] at S1 S2 S3
        have JI := kd (show sg = true → j ≠ i from fun e => by
          have e1 := HB0.out
          rw [if_pos e] at e1
          omega)
        have MORE := kd (fun v3 w3 L3 (E3 : L3 = l ++ [(byteL s).getD j 0]) (l3 : L3.length = l.length + 1) (M3 : Hid (OX w v3 L3 w3)) (hc : telC sg ((byteL s).getD j 0) = true) => show TeR w s i k b0 Z PL sg T v3 (j + 1) w3 from ⟨L3, by omega, by omega, by omega, M3, .inr ⟨g, acc ++ [(byteL s).getD j 0], by omega, by omega, kd (by rw [E3, HLE.out, List.append_assoc]), kd (S1.out hc)⟩⟩)
        have SKIP := kd (fun (hc : telC sg ((byteL s).getD j 0) = false) (hc2 : telS ((byteL s).getD j 0) = true) => show TeR w s i k b0 Z PL sg T v (j + 1) wr from ⟨l, by omega, by omega, by omega, HO, .inr ⟨g, acc, by omega, by omega, HLE, kd (S2.out hc hc2)⟩⟩)
        have FAIL := kd (fun (hc : telC sg ((byteL s).getD j 0) = false) (hc2 : telS ((byteL s).getD j 0) = false) => ERR.out j (by rw [PE.out, S3.out hc hc2]; rfl))
        have TC := kd (show telC sg ((byteL s).getD j 0) = (isDig ((byteL s).getD j 0) || (!sg && ((byteL s).getD j 0 == 42 || (byteL s).getD j 0 == 35))) from rfl)
        have DG2 := kd (DG.out ((byteL s).getD j 0))
        have CN2 := kd (CN.out ((byteL s).getD j 0))
        clear S1 S2 S3 ERR END PE DG CN HTE HLE ZG ZL TE SG HB0 HPL hbj hf
        generalize (byteL s).getD j 0 = x at *
        cases hD : isDig x with
        | true =>
          rw [hD] at DG2 TC
          clear SKIP FAIL CN2
          go_wp2_with (first
            | (go_at_call 95; refine (DG2.out _).mono ?_; rintro e w' ⟨rfl, rfl⟩)
            | (with_reducible refine wpList_push1 rfl (.tmp 55) (.tmp 57) rfl _ l rfl HO.out x rfl (by omega) ?_))
          intro v3 w3 L3 E3 l3 M3
          go_wp2_with fail
          go_roundw
          case rel => exact ⟨j + 1, _, rfl, by go_num, kd (MORE.out v3 w3 L3 E3.out l3 M3 (by rw [TC.out]; rfl))⟩
          case measure => simp [intOf]; omega
        | false =>
          rw [hD] at DG2 TC
          cases sg with
          | true =>
            have ej : ((j : Int) == (i : Int)) = false := by have := JI.out rfl; simp; omega
            clear MORE
            cases hS : telS x with
            | true =>
              rw [hS] at CN2
              have SK := kd (SKIP.out (by rw [TC.out]; rfl) hS)
              clear SKIP FAIL hS TC
              go_wp2_with (first | (go_at_call 95; refine (DG2.out _).mono ?_; rintro e w' ⟨rfl, rfl⟩) | (go_at_call 96; refine (CN2.out _).mono ?_; rintro e w' ⟨rfl, rfl⟩))
              go_roundw
              case rel => exact ⟨j + 1, _, rfl, by go_num, SK⟩
              case measure => simp [intOf]; omega
            | false =>
              rw [hS] at CN2
              have FA := kd (FAIL.out (by rw [TC.out]; rfl) hS)
              clear SKIP FAIL hS TC
              go_wp2_with (first
                | (go_at_call 95; refine (DG2.out _).mono ?_; rintro e w' ⟨rfl, rfl⟩)
                | (go_at_call 96; refine (CN2.out _).mono ?_; rintro e w' ⟨rfl, rfl⟩)
                | (go_at_call 140; refine (rfail_any _ b i j s (0, 0) 5 R1.out.r).mono ?_; rintro _ w5 ⟨rfl, h5⟩; have R2 := kd (R1.out.then h5)))
              go_ret
              exact ⟨_, _, _, rfl, R2.out, FA.out⟩
          | false =>
            by_cases h42 : x = 42
            · have e42 : (x == 42) = true := beq_iff_eq.2 h42
              rw [e42] at TC
              clear h42
              clear SKIP FAIL CN2
              go_wp2_with (first
                | (go_at_call 95; refine (DG2.out _).mono ?_; rintro e w' ⟨rfl, rfl⟩)
                | (with_reducible refine wpList_push1 rfl (.tmp 55) (.tmp 57) rfl _ l rfl HO.out x rfl (by omega) ?_))
              intro v3 w3 L3 E3 l3 M3
              go_wp2_with fail
              go_roundw
              case rel => exact ⟨j + 1, _, rfl, by go_num, kd (MORE.out v3 w3 L3 E3.out l3 M3 (by rw [TC.out]; rfl))⟩
              case measure => simp [intOf]; omega
            · have e42 : (x == 42) = false := by simpa using h42
              rw [e42] at TC
              by_cases h35 : x = 35
              · have e35 : (x == 35) = true := beq_iff_eq.2 h35
                rw [e35] at TC
                clear h35
                clear SKIP FAIL CN2
                go_wp2_with (first
                  | (go_at_call 95; refine (DG2.out _).mono ?_; rintro e w' ⟨rfl, rfl⟩)
                  | (with_reducible refine wpList_push1 rfl (.tmp 55) (.tmp 57) rfl _ l rfl HO.out x rfl (by omega) ?_))
                intro v3 w3 L3 E3 l3 M3
                go_wp2_with fail
                go_roundw
                case rel => exact ⟨j + 1, _, rfl, by go_num, kd (MORE.out v3 w3 L3 E3.out l3 M3 (by rw [TC.out]; rfl))⟩
                case measure => simp [intOf]; omega
              · have e35 : (x == 35) = false := by simpa using h35
                rw [e35] at TC
                clear h42 h35
                clear MORE
                cases hS : telS x with
                | true =>
                  rw [hS] at CN2
                  have SK := kd (SKIP.out (by rw [TC.out]; rfl) hS)
                  clear SKIP FAIL hS TC
                  go_wp2_with (first | (go_at_call 95; refine (DG2.out _).mono ?_; rintro e w' ⟨rfl, rfl⟩) | (go_at_call 96; refine (CN2.out _).mono ?_; rintro e w' ⟨rfl, rfl⟩))
                  go_roundw
                  case rel => exact ⟨j + 1, _, rfl, by go_num, SK⟩
                  case measure => simp [intOf]; omega
                | false =>
                  rw [hS] at CN2
                  have FA := kd (FAIL.out (by rw [TC.out]; rfl) hS)
                  clear SKIP FAIL hS TC
                  go_wp2_with (first
                    | (go_at_call 95; refine (DG2.out _).mono ?_; rintro e w' ⟨rfl, rfl⟩)
                    | (go_at_call 96; refine (CN2.out _).mono ?_; rintro e w' ⟨rfl, rfl⟩)
                    | (go_at_call 140; refine (rfail_any _ b i j s (0, 0) 5 R1.out.r).mono ?_; rintro _ w5 ⟨rfl, h5⟩; have R2 := kd (R1.out.then h5)))
                  go_ret
                  exact ⟨_, _, _, rfl, R2.out, FA.out⟩
    · obtain rfl : j = k := by omega
      have hd : decide ((j : Int) < (j : Int)) = false := by simp
      rcases HC with ⟨rfl, rfl, rfl⟩ | ⟨f, acc, hbj, hf, HLE, HTE⟩
      · have := (SG.out rfl).2; omega
      · obtain ⟨g, rfl⟩ : ∃ g, f = g + 1 := ⟨f - 1, by omega⟩
        have TO := kd (show T = .ok acc by rw [HTE.out, tel_end (by rw [ZL.out]; exact Nat.le_refl _)])
        have PH := kd (END.out acc (by rw [PE.out, TO.out]; rfl))
        obtain rfl := HLE.out
        obtain ⟨A, cp, hv⟩ := HO.out.form
        subst hv
        have LE := kd (show (PL ++ acc).length = acc.length + (if sg = true then 1 else 0) by
          rw [← HPL.out, List.length_append]
          cases sg <;> simp <;> omega)
        have NL := kd (show (PL ++ acc).length ≤ 16000000 by omega)
        have OS := kd HO.out.o
        have XT := kd (show strOfNums (PL ++ acc) = strOfNums (PL ++ acc) from rfl)
        generalize hN : (PL ++ acc).length = N at LE NL OS ⊢
        clear TO HTE PE ERR END TE ZG ZL SG HB0 HPL hbj hf hl k0
        have aN : acc.length ≤ 16000000 := by have h1 := LE.out; have h2 := NL.out; omega
        go_upto_if 67 with (fail)
        go_cut [9] (fun v wx => v = .int .i64 (acc.length : Nat) ∧ Hid (wr = wx))
        case first =>
          cases sg with
          | true =>
            have en : (N : Int) = (acc.length : Nat) + 1 := by have := LE.out; simp at this; omega
            rw [en]
            go_wp2_with fail
            go_meet
            exact ⟨by go_num, kd rfl⟩
          | false =>
            have en : N = acc.length := by have := LE.out; simpa using this
            subst en
            go_wp2_with fail
            go_meet
            exact ⟨rfl, kd rfl⟩
        case rest =>
        obtain ⟨rfl, hwx⟩ := hcut
        obtain rfl := hwx.out
        clear hwx
        by_cases h0 : acc.length < 1
        · rw [if_pos h0] at PH
          have d1 : decide ((acc.length : Int) < 1) = true := by simp; omega
          have d2 : decide ((30 : Int) < (acc.length : Int)) = false := by simp; omega
          go_upto_region 21 with (go_at_call 140; refine (rfail_any _ b i i s (0, 0) 5 R1.out.r).mono ?_; rintro _ w5 ⟨rfl, h5⟩)
          rw [failQ_ok (q := (0, 0)) rfl] at h5
          have R2 := kd (R1.out.then h5)
          have OT := kd (own_rdx OS.out h5.g (show b < w.heap.size from Row.lt HR.out))
          clear h5 R1 OS
          have f1 := R2.out.r.frozen 1
          have k1 := R2.out.r.cell 1
          simp only [rdC, List.getElem?_cons_succ, List.getElem?_cons_zero] at k1
          have R5 := kd (R2.out.at j)
          have OO := kd (own_elder (o := 1) (u := .int .i64 (j : Nat)) OT.out (show b < w.heap.size from Row.lt HR.out))
          go_upto_region 22 with (fail)
          clear f1 k1
          generalize World.setCell _ ⟨b, 1, none⟩ (.int .i64 (j : Nat)) = w9 at *
          have cv := conv_owned OO.out
          go_wp2_with fail
          go_ret
          first | exact ⟨_, _, _, rfl, R5.out, PH.out⟩ | exact ⟨_, rfl, _, _, _, R5.out, PH.out⟩
        · rw [if_neg h0] at PH
          have d1 : decide ((acc.length : Int) < 1) = false := by simp; omega
          by_cases h1 : 30 < acc.length
          · rw [if_pos h1] at PH
            have d2 : decide ((30 : Int) < (acc.length : Int)) = true := by simp; omega
            go_upto_region 21 with (go_at_call 140; refine (rfail_any _ b i i s (0, 0) 4 R1.out.r).mono ?_; rintro _ w5 ⟨rfl, h5⟩)
            rw [failQ_ok (q := (0, 0)) rfl] at h5
            have R2 := kd (R1.out.then h5)
            have OT := kd (own_rdx OS.out h5.g (show b < w.heap.size from Row.lt HR.out))
            clear h5 R1 OS
            have f1 := R2.out.r.frozen 1
            have k1 := R2.out.r.cell 1
            simp only [rdC, List.getElem?_cons_succ, List.getElem?_cons_zero] at k1
            have R5 := kd (R2.out.at j)
            have OO := kd (own_elder (o := 1) (u := .int .i64 (j : Nat)) OT.out (show b < w.heap.size from Row.lt HR.out))
            go_upto_region 22 with (fail)
            clear f1 k1
            generalize World.setCell _ ⟨b, 1, none⟩ (.int .i64 (j : Nat)) = w9 at *
            have cv := conv_owned OO.out
            go_wp2_with fail
            go_ret
            first | exact ⟨_, _, _, rfl, R5.out, PH.out⟩ | exact ⟨_, rfl, _, _, _, R5.out, PH.out⟩
          · rw [if_neg h1] at PH
            have d2 : decide ((30 : Int) < (acc.length : Int)) = false := by simp; omega
            have OT := kd OS.out
            have f1 := R1.out.r.frozen 1
            have k1 := R1.out.r.cell 1
            simp only [rdC, List.getElem?_cons_succ, List.getElem?_cons_zero] at k1
            have R5 := kd (R1.out.at j)
            have OO := kd (own_elder (o := 1) (u := .int .i64 (j : Nat)) OT.out (show b < w.heap.size from Row.lt HR.out))
            go_upto_region 22 with (fail)
            clear f1 k1
            generalize World.setCell _ ⟨b, 1, none⟩ (.int .i64 (j : Nat)) = w9 at *
            have cv := conv_owned OO.out
            go_wp2_with fail
            go_ret
            first | exact ⟨_, _, _, rfl, R5.out, PH.out⟩ | exact ⟨_, rfl, _, _, _, R5.out, PH.out⟩
end Go.Proofs.YthfonniieaiocaaGreatDoor
