/- Contract: address's number. -/
import Derived.Test.YthfonniieaiocaaGreatDoorUj
import Derived.Test.YthfonniieaiocaaGreatDoorLl
set_option linter.unusedVariables false
set_option linter.unusedSimpArgs false
namespace Go.Proofs.YthfonniieaiocaaGreatDoor
open Go.RowKit

theorem asc_3b : Asc7 ⟨#[59]⟩ := fun j b h => by
  have hm := List.mem_of_getElem? h
  simp only [List.mem_cons, List.not_mem_nil, or_false] at hm
  subst hm; decide
theorem trim_tel (sg : Bool) (d : List Int) (h : d.all (telC sg) = true) : (⟨(Lib.trimPrefix (strOfNums ((if sg = true then [43] else []) ++ d)).data.toList [43]).toArray⟩ : ByteArray) = strOfNums d := by
  rw [strOfNums_data]
  unfold Lib.trimPrefix Lib.hasPrefix
  cases sg with
  | true => simp [strOfNums, List.isPrefixOf]
  | false =>
    cases d with
    | nil => rfl
    | cons c d =>
      rw [List.all_cons, Bool.and_eq_true] at h
      have hc := telC_range h.1
      rw [if_neg]
      · rfl
      · simp [List.isPrefixOf]
        intro e
        have e2 := congrArg UInt8.toNat e
        simp at e2
        omega
theorem OX.put {w wr : World} {v u : Value} {xs : List Int} {b i : Nat} (H : OX w v xs wr) (hb : w.heap.size ≤ b) (hne : ∀ g, v.ownBlock = some g → g ≠ b) : OX w v xs (wr.setCell ⟨b, i, none⟩ u) := by
  refine ⟨⟨H.o.1, ?_⟩, H.bw.setCell hb u⟩
  rcases H.o.2 with h0 | ⟨g, cap, cur, h1, h2, h3, h4⟩
  · exact .inl h0
  · exact .inr ⟨g, cap, cur, h1, h2, (Below.heap_setCell wr ⟨b, i, none⟩ u g (hne g (by rw [h1]; rfl))).trans h3, h4⟩
theorem OX.ne {w wr : World} {v : Value} {xs : List Int} {b : Nat} {T : TypeId} {us : List Value} (H : OX w v xs wr) (h : Row wr b T us) (ht : T ≠ 5) : ∀ g, v.ownBlock = some g → g ≠ b := fun g hg e => by
  subst e
  unfold Row at h
  rcases H.o.2 with ⟨rfl, _⟩ | ⟨g2, cap, cur, rfl, _, h3, _⟩
  · cases hg
  · cases hg
    rw [h] at h3
    injection h3 with h3
    injection h3 with _ h3
    exact ht h3
/-- The cursor, the URI and bytes of one's own. -/
structure TlX (w : World) (cb ub : Nat) (s : ByteArray) (a : Nat) (us : List Value) (l : List Int) (v : Value) (wr : World) : Prop where
  c : Row wr cb 84 [.string s, .int .i64 a]
  u : Row wr ub 32 us
  gc : w.heap.size ≤ cb
  gu : w.heap.size ≤ ub
  o : OX w v l wr
section
variable {w wr w' : World} {cb ub a : Nat} {s : ByteArray} {us : List Value} {l : List Int} {v : Value}
theorem TlX.call (h : TlX w cb ub s a us l v wr) (hb : Below wr.heap.size wr w') : TlX w cb ub s a us l v w' := ⟨h.c.below hb, h.u.below hb, h.gc, h.gu, h.o.step hb⟩
theorem TlX.cset (h : TlX w cb ub s a us l v wr) (a' : Nat) {z : Int} (hz : z = a') : TlX w cb ub s a' us l v (wr.setCell ⟨cb, 1, none⟩ (.int .i64 z)) := by
  subst hz
  exact ⟨h.c.set 1 _, h.u.setOther (rowT_ne h.c h.u (by decide)) _, h.gc, h.gu, h.o.put h.gc (h.o.ne h.c (by decide))⟩
theorem TlX.mine (h : TlX w cb ub s a us l v wr) : Mine w wr (LP cb ub s a us) [] := ⟨h.o.bw, (fun r hr => by
    simp only [LP, List.mem_cons, List.not_mem_nil, or_false] at hr
    rcases hr with rfl | rfl
    · exact ⟨h.c, h.gc⟩
    · exact ⟨h.u, h.gu⟩), (by
    have := rowT_ne h.c h.u (by decide)
    simp [LP, this]), fun F hF => by cases hF⟩
theorem TlX.of (h : Mine w wr (LP cb ub s a us) []) : TlX w cb ub s a us [] (.slice none 0 0) wr := ⟨mine_c h, mine_u h, h.ge (i := 0) rfl, h.ge (i := 1) rfl, ⟨World.ownsRow_nil _ _ _ _, h.bw⟩⟩
end
theorem wpList_pushN {w wr : World} {cb ub a0 : Nat} {s : ByteArray} {us : List Value} {l : List Int} {v : Value} {ops : Array Oper} {rest : List Oper} {o : Oper} {a : Act} {Q : Exit → Act → World → Prop} (hgd : o.guard = none) (x y : Operand)
    (ho : o.op = .call { callee := .builtin .append, args := #[x, y], argTypes := #[69, 69] }) (hs : a.eval x = v) (H : TlX w cb ub s a0 us l v wr) (c : Int) (hy : a.eval y = .slice (some ⟨wr.heap.size, 0, none⟩) 1 1) (hb : l.length + 1 ≤ 16777216)
    (h : ∀ v' w', Hid (TlX w cb ub s a0 us (l ++ [c]) v' w') → wpList Tryz.prog ops Q rest (a.put o.dst v') w') : wpList Tryz.prog ops Q (o :: rest) a (wr.alloc (.cells #[.int .u8 c] 5)) :=
  wpList_append_bytes hgd x y ho w.heap.size v l.length l hs (H.o.o.alloc _) (some ⟨wr.heap.size, 0, none⟩) 1 1 [c] hy (one_bs _ _) rfl no_nil hb (H.o.base _) fun v' w' o1 g1 =>
    h v' w' (Lib.hid ⟨(H.c.alloc _).heap (g1.block cb (by rw [World.size_alloc]; have := H.c.lt; omega) (fun e => H.o.ne H.c (by decide) cb e.symm rfl)), (H.u.alloc _).heap (g1.block ub (by rw [World.size_alloc]; have := H.u.lt; omega) (fun e => H.o.ne H.u (by decide) ub e.symm rfl)), H.gc, H.gu, H.o.push o1 g1⟩)
def PhP (w : World) (cb ub : Nat) (s sc : ByteArray) (R : Except (Nat × Int) (List Int × Nat)) (r : Ending) (w' : World) : Prop := match R with
  | .error q => r = .returned (.tuple #[.int .i64 (q.1 : Nat), .int .u8 q.2]) ∧ Below w.heap.size w w' ∧ q.2 ≠ 0
  | .ok (u, b) => r = .returned (.tuple #[.int .i64 0, .int .u8 0]) ∧ Mine w w' (LP cb ub s b (uCs sc u [] 0)) []
theorem PhP.bad {w w' : World} {cb ub z : Nat} {k : Int} {s sc : ByteArray} {R : Except (Nat × Int) (List Int × Nat)} (h : R = .error (z, k)) (hb : Below w.heap.size w w') (hk : k ≠ 0) : PhP w cb ub s sc R (.returned (.tuple #[.int .i64 (z : Nat), .int .u8 k])) w' := by
  subst h; exact ⟨rfl, hb, hk⟩
theorem PhP.good {w w' : World} {cb ub b : Nat} {u : List Int} {s sc : ByteArray} {R : Except (Nat × Int) (List Int × Nat)} (hR : R = .ok (u, b)) (hb : Mine w w' (LP cb ub s b (uCs sc u [] 0)) []) : PhP w cb ub s sc R (.returned (.tuple #[.int .i64 0, .int .u8 0])) w' := by
  subst hR; exact ⟨rfl, hb⟩
theorem phone_eq (xs : List Int) (a : Nat) : phoneL xs a = match telN (xs.take (untilL xs a [59])) (seesB xs a 43) (xs.length + 1) (if seesB xs a 43 = true then a + 1 else a) [] with
  | .error i => .error (i, 5)
  | .ok d => if d = [] then .error (a, 5) else if 30 < d.length then .error (a, 4) else .ok ((if seesB xs a 43 = true then [43] else []) ++ d, untilL xs a [59]) := rfl
theorem tel_more {xs : List Int} {sg : Bool} {f i : Nat} {acc : List Int} (hi : i < xs.length) (h : telC sg (xs.getD i 0) = true) : telN xs sg (f + 1) i acc = telN xs sg f (i + 1) (acc ++ [xs.getD i 0]) := by
  conv => lhs; unfold telN
  rw [if_neg (by omega), if_pos h]
theorem tel_skip {xs : List Int} {sg : Bool} {f i : Nat} {acc : List Int} (hi : i < xs.length) (h : telC sg (xs.getD i 0) = false) (h2 : telS (xs.getD i 0) = true) : telN xs sg (f + 1) i acc = telN xs sg f (i + 1) acc := by
  conv => lhs; unfold telN
  rw [if_neg (by omega), if_neg (by rw [h]; decide), if_pos h2]
theorem tel_bad {xs : List Int} {sg : Bool} {f i : Nat} {acc : List Int} (hi : i < xs.length) (h : telC sg (xs.getD i 0) = false) (h2 : telS (xs.getD i 0) = false) : telN xs sg (f + 1) i acc = .error i := by
  conv => lhs; unfold telN
  rw [if_neg (by omega), if_neg (by rw [h]; decide), if_neg (by rw [h2]; decide)]
theorem tel_end {xs : List Int} {sg : Bool} {f i : Nat} {acc : List Int} (hi : xs.length ≤ i) : telN xs sg (f + 1) i acc = .ok acc := by
  conv => lhs; unfold telN
  rw [if_pos hi]
theorem until_succ {xs : List Int} {a : Nat} {st : List Int} (h : a < xs.length) (hc : st.contains (xs.getD a 0) = false) : a + 1 ≤ untilL xs a st := by
  have e : xs.drop a = xs.getD a 0 :: xs.drop (a + 1) := by
    rw [List.drop_eq_getElem_cons h, List.getD_eq_getElem?_getD, List.getElem?_eq_getElem h]; rfl
  unfold untilL skipTo
  rw [e, List.takeWhile_cons, if_pos (by rw [hc]; rfl), List.length_cons]; omega
/-- The loop of number. -/
def TelR (w : World) (cb ub : Nat) (s sc : ByteArray) (k : Nat) (Z PL : List Int) (sg : Bool) (T : Except Nat (List Int)) (g : Nat) (v : Value) (wx : World) : Prop :=
  ∃ (i f : Nat) (acc l : List Int) (v2 : Value), i + g = k ∧ g < f ∧ l.length ≤ i ∧ v = v2 ∧ Hid (l = PL ++ acc) ∧ Hid (T = telN Z sg f i acc) ∧ Hid (acc.all (telC sg) = true) ∧ Hid (TlX w cb ub s i (uCs sc [] [] 0) l v2 wx)
theorem dig_tel {sg : Bool} {c : Int} (h1 : 48 ≤ c) (h2 : c ≤ 57) : telC sg c = true := by
  unfold telC isDig; simp [h1, h2]
theorem tel_no {sg : Bool} {c : Int} (h1 : ¬ (48 ≤ c ∧ c ≤ 57)) (h2 : sg = true ∨ (c ≠ 42 ∧ c ≠ 35)) : telC sg c = false := by
  unfold telC isDig
  rcases h2 with rfl | ⟨h3, h4⟩
  · simp; omega
  · simp [h3, h4]; omega
set_option maxRecDepth 100000 in
set_option maxHeartbeats 4000000 in
theorem tel_any (w wr : World) (cb ub a : Nat) (s sc : ByteArray) (H : Mine w wr (LP cb ub s a (uCs sc [] [] 0)) []) (ha : a ≤ s.size) (hs : s.size ≤ 4000000) :
    Calls Tryz.prog 68 #[.pointer (some ⟨cb, 0, none⟩), .pointer (some ⟨ub, 0, none⟩)] wr (PhP w cb ub s sc (phoneL (byteL s) a)) := by
  have HM := Lib.hid H
  have HL := byteL_len s
  have HB := Lib.hid (byteL_by s)
  obtain ⟨u1, u2⟩ := until_le (xs := byteL s) (a := a) (st := [59]) (by rw [HL]; exact ha)
  rw [HL] at u2
  have UN := Lib.hid (fun w => until_any s ⟨#[59]⟩ a w hs ha (by decide) (by decide) asc_3b)
  simp only [show byteL ⟨#[59]⟩ = [59] by rfl] at UN
  have SE := Lib.hid (fun w wr (h : Mine w wr (LP cb ub s a (uCs sc [] [] 0)) []) => cursees_any wr cb a 43 s (mine_c h))
  have PE := Lib.hid (phone_eq (byteL s) a)
  have ZG := Lib.hid (fun i (h : i < untilL (byteL s) a [59]) => show ((byteL s).take (untilL (byteL s) a [59])).getD i 0 = (byteL s).getD i 0 by
    rw [List.getD_eq_getElem?_getD, List.getD_eq_getElem?_getD, List.getElem?_take_of_lt h])
  have ZL : ((byteL s).take (untilL (byteL s) a [59])).length = untilL (byteL s) a [59] := by rw [List.length_take]; omega
  have SP := Lib.hid (fun (h : seesB (byteL s) a 43 = true) => show a + 1 ≤ untilL (byteL s) a [59] from by
    have h1 : decide (a < (byteL s).length) = true ∧ ((byteL s).getD a 0 == 43) = true := by
      have h2 := h
      unfold seesB at h2
      rwa [Bool.and_eq_true] at h2
    exact until_succ (of_decide_eq_true h1.1) (by rw [eq_of_beq h1.2]; rfl))
  have BAD := Lib.hid (fun w' z k' (h : phoneL (byteL s) a = .error (z, k')) hb hk => PhP.bad (w := w) (w' := w') (cb := cb) (ub := ub) (z := z) (k := k') (s := s) (sc := sc) h hb hk)
  have GOOD := Lib.hid (fun w' u b (hR : phoneL (byteL s) a = .ok (u, b)) hb => PhP.good (w := w) (w' := w') (cb := cb) (ub := ub) (b := b) (u := u) (s := s) (sc := sc) hR hb)
  generalize PhP w cb ub s sc (phoneL (byteL s) a) = PP at *
  generalize phoneL (byteL s) a = R at *
  generalize untilL (byteL s) a [59] = k at *
  generalize (byteL s).take k = Z at *
  generalize seesB (byteL s) a 43 = sg at *
  have PT := Lib.hid (fun (d : List Int) (h : d.all (telC sg) = true) (w : World) => (Tryz.strings_TrimPrefix (strOfNums ((if sg = true then [43] else []) ++ d)) ⟨#[43]⟩ w).mono (R' := fun e w' => e = .returned (.string (strOfNums d)) ∧ w = w') fun e w' h2 => ⟨by rw [h2.1]; exact congrArg (fun x => Ending.returned (.string x)) (trim_tel sg d h), h2.2.symm⟩)
  have k0 : wr.cell? ⟨cb, 0, none⟩ = some (.string s) := (mine_c HM.out).cell 0
  have k1 : wr.cell? ⟨cb, 1, none⟩ = some (.int .i64 a) := (mine_c HM.out).cell 1
  have RG := Lib.hid (mine_c HM.out).text
  clear H
  go_enter Tryz.func68, Tryz.ntmps68
  go_wp2_with (with_reducible refine wpList_load_mid rfl 82 (.tmp 18) rfl cb 0 rfl [.string s] _ RG.out Tryz.underlying82 rfl (sizeTx _) ?_)
  refine (UN.out _).mono ?_
  rintro _ w2 ⟨rfl, hb2⟩
  have M2 := Lib.hid (HM.out.call hb2)
  clear k0 k1 RG hb2 HM UN
  go_wp2_with fail
  refine (SE.out _ _ M2.out).mono ?_
  rintro _ _ ⟨rfl, nq3, rfl⟩
  have M3 := Lib.hid (M2.out.call (below_drewN w2 nq3))
  clear M2 SE
  generalize w2.drewN nq3 = w3 at *
  have N3 := Lib.hid (TlX.of M3.out)
  clear M3
  obtain ⟨b0, hb0⟩ : ∃ b0, (if sg = true then a + 1 else a) = b0 := ⟨_, rfl⟩
  obtain ⟨PL, hPL⟩ : ∃ PL : List Int, (if sg = true then [43] else []) = PL := ⟨_, rfl⟩
  have HB0 := Lib.hid hb0; have HPL := Lib.hid hPL
  have bk : b0 ≤ k := by
    cases sg with
    | true => have := SP.out rfl; rw [if_pos rfl] at hb0; omega
    | false => rw [if_neg (by decide)] at hb0; omega
  have pl : PL.length ≤ b0 := by
    cases sg with
    | true => rw [if_pos rfl] at hb0 hPL; subst hPL; subst hb0; simp
    | false => rw [if_neg (by decide)] at hPL; subst hPL; simp
  rw [hb0, hPL] at PE
  rw [hPL] at PT
  clear hb0 hPL SP
  go_upto_if 24 with (fail)
  go_cut [8] (fun v wx => Hid (TlX w cb ub s b0 (uCs sc [] [] 0) PL v wx))
  case first =>
    cases sg with
    | false =>
      obtain rfl := HB0.out
      obtain rfl := HPL.out
      go_wp2_with fail
      go_meet
      exact N3
    | true =>
      obtain rfl := HB0.out
      obtain rfl := HPL.out
      go_wp2_with (with_reducible refine wpList_pushN rfl (.tmp 25) (.tmp 26) rfl rfl N3.out 43 rfl (by simp) ?_)
      intro v4 w4 N4
      clear N3
      have k1 : w4.cell? ⟨cb, 1, none⟩ = some (.int .i64 a) := N4.out.c.cell 1
      have f1 : w4.frozen? ⟨cb, 1, none⟩ = false := N4.out.c.frozen 1
      have N5 := Lib.hid (N4.out.cset (a + 1) (z := (a : Int) + 1) (by push_cast; rfl))
      go_wp2_with fail
      go_meet
      exact N5
  case rest =>
  rename_i KK hKK
  have N4 := Lib.hid hcut.out
  clear hcut N3
  first | (refine hKK _ _ ?_; clear hKK KK) | skip
  clear HB0 HPL u1
  obtain ⟨T, hT⟩ : ∃ T, telN Z sg ((byteL s).length + 1) b0 [] = T := ⟨_, rfl⟩
  rw [hT] at PE
  have TE0 := Lib.hid hT.symm
  rw [HL] at TE0
  have ZL2 := Lib.hid ZL
  have HL2 := Lib.hid HL
  clear hT ZL HL
  go_wp2_with fail
  go_loopg [8, 10] (k - b0) (fun g v _ wx => TelR w cb ub s sc k Z PL sg T g v wx)
  case atStart => exact ⟨b0, s.size + 1, [], PL, _, by omega, by omega, pl, rfl, Lib.hid (by simp), TE0, Lib.hid rfl, N4⟩
  case round =>
    clear N4 TE0 bk pl
    obtain ⟨i, f, acc, l, v2, hig, hgf, hl, rfl, LE, TE, AC, NI⟩ := hrel
    have k0 : wr.cell? ⟨cb, 0, none⟩ = some (.string s) := NI.out.c.cell 0
    have k1 : wr.cell? ⟨cb, 1, none⟩ = some (.int .i64 i) := NI.out.c.cell 1
    cases gk with
    | zero =>
      have hd : decide ((i : Int) < (k : Int)) = false := by simp; omega
      have T2 := Lib.hid (show T = .ok acc by obtain ⟨f', rfl⟩ : ∃ f', f = f' + 1 := ⟨f - 1, by omega⟩; rw [TE.out, tel_end (by rw [ZL2.out]; omega)])
      obtain rfl : i = k := by omega
      obtain rfl := LE.out
      have cv := conv_owned NI.out.o.o
      have f1 : wr.frozen? ⟨ub, 1, none⟩ = false := NI.out.u.frozen 1
      have c1 : wr.cell? ⟨ub, 1, none⟩ = some (.string (strOfNums [])) := NI.out.u.cell 1
      have M5 := Lib.hid (show Mine w (wr.setCell ⟨ub, 1, none⟩ (.string (strOfNums (PL ++ acc)))) (LP cb ub s i (uCs sc (PL ++ acc) [] 0)) [] from mine_uset NI.out.mine 1 _)
      have RE := Lib.hid (show R = if acc = [] then .error (a, 5) else if 30 < acc.length then .error (a, 4) else .ok (PL ++ acc, i) by rw [PE.out, T2.out])
      have PT1 := Lib.hid (PT.out acc AC.out)
      clear PT PE T2 TE LE AC ZG ZL2 HL2 hgf hig
      go_upto_region 17 with (fail)
      clear f1 c1 k0 k1 cv NI
      generalize wr.setCell ⟨ub, 1, none⟩ (.string (strOfNums (PL ++ acc))) = w5 at *
      have c1 : w5.cell? ⟨ub, 1, none⟩ = some (.string (strOfNums (PL ++ acc))) := (mine_u M5.out).cell 1
      go_wp2_with fail
      refine (PT1.out _).mono ?_
      rintro _ _ ⟨rfl, rfl⟩
      clear c1 PT1
      cases hacc : acc with
      | nil =>
        have E := Lib.hid (show R = .error (a, 5) by rw [RE.out, if_pos hacc])
        subst hacc
        rw [show strOfNums [] = ⟨#[]⟩ from rfl]
        clear RE
        go_wp2_with fail
        exact BAD.out _ _ _ E.out M5.out.bw (by decide)
      | cons x y =>
        have LN := num_size (x :: y)
        have q0 := empty_beq (x :: y)
        rw [List.isEmpty_cons] at q0
        have q1 : ¬ (strOfNums (x :: y)).toList = [] := by simpa using q0
        rw [← hacc] at LN q0 q1 ⊢
        have RE2 := Lib.hid (RE.out.trans (if_neg (by rw [hacc]; simp)))
        clear RE hacc
        by_cases h30 : 30 < acc.length
        · have E := Lib.hid (RE2.out.trans (if_pos h30))
          have d3 : decide ((30 : Int) < (acc.length : Int)) = true := by simp; omega
          clear RE2 h30
          go_wp2_with fail
          exact BAD.out _ _ _ E.out M5.out.bw (by decide)
        · have E := Lib.hid (RE2.out.trans (if_neg h30))
          have d3 : decide ((30 : Int) < (acc.length : Int)) = false := by simp; omega
          clear RE2 h30
          go_wp2_with fail
          exact GOOD.out _ _ _ E.out M5.out
    | succ g =>
      have hd : decide ((i : Int) < (k : Int)) = true := by simp; omega
      have hi : i < k := by omega
      have hi2 : i < s.size := by omega
      have d1 := fun w => idx_str s (i := i) hi2 (z := (i : Int)) rfl w
      have hx2 := HB.out _ (getD_mem (l := byteL s) (i := i) (by rw [HL2.out]; exact hi2))
      obtain ⟨f, rfl⟩ : ∃ f', f = f' + 1 := ⟨f - 1, by omega⟩
      have T1 := Lib.hid (fun (h : telC sg ((byteL s).getD i 0) = true) => show T = telN Z sg f (i + 1) (acc ++ [(byteL s).getD i 0]) by rw [TE.out, tel_more (by rw [ZL2.out]; exact hi) (by rw [ZG.out i hi]; exact h), ZG.out i hi])
      have T2 := Lib.hid (fun (h : telC sg ((byteL s).getD i 0) = false) (h2 : telS ((byteL s).getD i 0) = true) => show T = telN Z sg f (i + 1) acc by rw [TE.out, tel_skip (by rw [ZL2.out]; exact hi) (by rw [ZG.out i hi]; exact h) (by rw [ZG.out i hi]; exact h2)])
      have T3 := Lib.hid (fun (h : telC sg ((byteL s).getD i 0) = false) (h2 : telS ((byteL s).getD i 0) = false) => show R = .error (i, 5) by rw [PE.out, TE.out, tel_bad (by rw [ZL2.out]; exact hi) (by rw [ZG.out i hi]; exact h) (by rw [ZG.out i hi]; exact h2)])
      generalize (byteL s).getD i 0 = c at *
      clear TE hi hi2
      go_wp2_with fail
      go_quiet (fail)
      have N2 := Lib.hid (NI.out.call (below_drewN wr nq))
      clear k0 k1 d1 hd NI
      generalize wr.drewN nq = w2 at *
      have k1 : w2.cell? ⟨cb, 1, none⟩ = some (.int .i64 i) := N2.out.c.cell 1
      have f1 : w2.frozen? ⟨cb, 1, none⟩ = false := N2.out.c.frozen 1
      clear hx2 PT PE ZG ZL2 HL2 GOOD
      by_cases hdg : 48 ≤ c ∧ c ≤ 57
      · have TC := Lib.hid (dig_tel (sg := sg) hdg.1 hdg.2)
        have d2 : decide (48 ≤ c) = true := by simp [hdg.1]
        have d3 : decide (c ≤ 57) = true := by simp [hdg.2]
        clear hdg
        have T4 := Lib.hid (T1.out (TC.out))
        clear T1 T2 T3 f1 k1
        go_wp2_with (with_reducible refine wpList_pushN rfl (.tmp 75) (.tmp 77) rfl rfl N2.out c rfl (by omega) ?_)
        intro v3 w3 N3
        clear N2
        have k1 : w3.cell? ⟨cb, 1, none⟩ = some (.int .i64 i) := N3.out.c.cell 1
        have f1 : w3.frozen? ⟨cb, 1, none⟩ = false := N3.out.c.frozen 1
        have N4 := Lib.hid (N3.out.cset (i + 1) (z := (i : Int) + 1) (by push_cast; rfl))
        have AC2 := Lib.hid (show (acc ++ [c]).all (telC _) = true by rw [List.all_append, AC.out]; simpa using TC.out)
        go_wp2_with fail
        go_roundg g
        case measure => omega
        case rel => exact ⟨i + 1, f, acc ++ [c], l ++ [c], _, by omega, by omega, by rw [List.length_append, List.length_singleton]; omega, rfl, Lib.hid (by rw [LE.out, List.append_assoc]), T4, AC2, N4⟩
      · by_cases h42 : c = 42
        · subst h42
          cases sg with
          | false =>
            have T4 := Lib.hid (T1.out (show telC false 42 = true by decide))
            clear T1 T2 T3 f1 k1
            go_wp2_with (with_reducible refine wpList_pushN rfl (.tmp 75) (.tmp 77) rfl rfl N2.out 42 rfl (by omega) ?_)
            intro v3 w3 N3
            clear N2
            have k1 : w3.cell? ⟨cb, 1, none⟩ = some (.int .i64 i) := N3.out.c.cell 1
            have f1 : w3.frozen? ⟨cb, 1, none⟩ = false := N3.out.c.frozen 1
            have N4 := Lib.hid (N3.out.cset (i + 1) (z := (i : Int) + 1) (by push_cast; rfl))
            have AC2 := Lib.hid (show (acc ++ [42]).all (telC _) = true by rw [List.all_append, AC.out]; simpa using show telC false 42 = true by decide)
            go_wp2_with fail
            go_roundg g
            case measure => omega
            case rel => exact ⟨i + 1, f, acc ++ [42], l ++ [42], _, by omega, by omega, by rw [List.length_append, List.length_singleton]; omega, rfl, Lib.hid (by rw [LE.out, List.append_assoc]), T4, AC2, N4⟩
          | true =>
            have E := Lib.hid (T3.out (by decide) (by decide))
            clear T1 T2 T3
            go_wp2_with fail
            exact BAD.out _ _ _ E.out N2.out.o.bw (by decide)
        by_cases h35 : c = 35
        · subst h35
          cases sg with
          | false =>
            have T4 := Lib.hid (T1.out (show telC false 35 = true by decide))
            clear T1 T2 T3 f1 k1
            go_wp2_with (with_reducible refine wpList_pushN rfl (.tmp 75) (.tmp 77) rfl rfl N2.out 35 rfl (by omega) ?_)
            intro v3 w3 N3
            clear N2
            have k1 : w3.cell? ⟨cb, 1, none⟩ = some (.int .i64 i) := N3.out.c.cell 1
            have f1 : w3.frozen? ⟨cb, 1, none⟩ = false := N3.out.c.frozen 1
            have N4 := Lib.hid (N3.out.cset (i + 1) (z := (i : Int) + 1) (by push_cast; rfl))
            have AC2 := Lib.hid (show (acc ++ [35]).all (telC _) = true by rw [List.all_append, AC.out]; simpa using show telC false 35 = true by decide)
            go_wp2_with fail
            go_roundg g
            case measure => omega
            case rel => exact ⟨i + 1, f, acc ++ [35], l ++ [35], _, by omega, by omega, by rw [List.length_append, List.length_singleton]; omega, rfl, Lib.hid (by rw [LE.out, List.append_assoc]), T4, AC2, N4⟩
          | true =>
            have E := Lib.hid (T3.out (by decide) (by decide))
            clear T1 T2 T3
            go_wp2_with fail
            exact BAD.out _ _ _ E.out N2.out.o.bw (by decide)
        by_cases h45 : c = 45
        · subst h45
          have T4 := Lib.hid (T2.out (tel_no (by decide) (.inr (by decide))) (by decide))
          clear T1 T2 T3
          have N4 := Lib.hid (N2.out.cset (i + 1) (z := (i : Int) + 1) (by push_cast; rfl))
          cases sg
          all_goals
            go_wp2_with fail
            go_roundg g
            case measure => omega
            case rel => exact ⟨i + 1, f, acc, l, _, by omega, by omega, by omega, rfl, LE, T4, AC, N4⟩
        by_cases h46 : c = 46
        · subst h46
          have T4 := Lib.hid (T2.out (tel_no (by decide) (.inr (by decide))) (by decide))
          clear T1 T2 T3
          have N4 := Lib.hid (N2.out.cset (i + 1) (z := (i : Int) + 1) (by push_cast; rfl))
          cases sg
          all_goals
            go_wp2_with fail
            go_roundg g
            case measure => omega
            case rel => exact ⟨i + 1, f, acc, l, _, by omega, by omega, by omega, rfl, LE, T4, AC, N4⟩
        by_cases h40 : c = 40
        · subst h40
          have T4 := Lib.hid (T2.out (tel_no (by decide) (.inr (by decide))) (by decide))
          clear T1 T2 T3
          have N4 := Lib.hid (N2.out.cset (i + 1) (z := (i : Int) + 1) (by push_cast; rfl))
          cases sg
          all_goals
            go_wp2_with fail
            go_roundg g
            case measure => omega
            case rel => exact ⟨i + 1, f, acc, l, _, by omega, by omega, by omega, rfl, LE, T4, AC, N4⟩
        by_cases h41 : c = 41
        · subst h41
          have T4 := Lib.hid (T2.out (tel_no (by decide) (.inr (by decide))) (by decide))
          clear T1 T2 T3
          have N4 := Lib.hid (N2.out.cset (i + 1) (z := (i : Int) + 1) (by push_cast; rfl))
          cases sg
          all_goals
            go_wp2_with fail
            go_roundg g
            case measure => omega
            case rel => exact ⟨i + 1, f, acc, l, _, by omega, by omega, by omega, rfl, LE, T4, AC, N4⟩
        have q42 : (c == 42) = false := by simpa using h42
        have q35 : (c == 35) = false := by simpa using h35
        have q45 : (c == 45) = false := by simpa using h45
        have q46 : (c == 46) = false := by simpa using h46
        have q40 : (c == 40) = false := by simpa using h40
        have q41 : (c == 41) = false := by simpa using h41
        have E := Lib.hid (T3.out (tel_no hdg (.inr ⟨h42, h35⟩)) (by unfold telS; rw [q45, q46, q40, q41]; rfl))
        have n45 : (c != 45) = true := by simpa using h45
        have n46 : (c != 46) = true := by simpa using h46
        have n40 : (c != 40) = true := by simpa using h40
        have n41 : (c != 41) = true := by simpa using h41
        clear T1 T2 T3 h42 h35 h45 h46 h40 h41 q45 q46 q40 q41
        by_cases hlo : 48 ≤ c
        · have d2 : decide (48 ≤ c) = true := by simp [hlo]
          have d3 : decide (c ≤ 57) = false := by simp; omega
          clear hdg hlo
          cases sg <;> (go_wp2_with fail; exact BAD.out _ _ _ E.out N2.out.o.bw (by decide))
        · have d2 : decide (48 ≤ c) = false := by simp; omega
          clear hdg hlo
          cases sg <;> (go_wp2_with fail; exact BAD.out _ _ _ E.out N2.out.o.bw (by decide))
end Go.Proofs.YthfonniieaiocaaGreatDoor
