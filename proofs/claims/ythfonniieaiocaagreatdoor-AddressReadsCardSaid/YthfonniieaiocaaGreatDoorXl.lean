/- Contract: the reference's reader: list. Contract: the reference's reader: list (the walk). Plain: an error before the first ':' of a user. Plain: what the reference's reader hands back is what the program reads: fields and lists. Plain: what the reference's reader hands back is what the program reads: whole addresses. Contract: the reference's Number of a text. -/
import Derived.Test.YthfonniieaiocaaGreatDoorXf
set_option linter.unusedVariables false
set_option linter.unusedSimpArgs false
set_option maxRecDepth 100000
namespace Go.Proofs.YthfonniieaiocaaGreatDoor
open Go.RowKit

def lstN (xs stops : List Int) (k r : Int) : Nat → Nat → (Nat × Int) → List Pm → Int → Nat × (Nat × Int) × List Pm
  | 0, i, q, l, _ => (i, q, l)
  | f + 1, i, q, l, c =>
    if isQ xs i q c = false then (i, q, l) else
    let d := prmQ xs (i + 1) (untilL xs (i + 1) stops) k q
    lstN xs stops k r f (untilL xs (i + 1) stops) (if roomF l d.1.n ≠ 0 then failQ d.2 (i + 1) (roomF l d.1.n) else d.2) (l ++ [d.1]) r
theorem lstN_end {xs stops : List Int} {k r : Int} {f i : Nat} {q : Nat × Int} {l : List Pm} {c : Int} (h : isQ xs i q c = false) : lstN xs stops k r (f + 1) i q l c = (i, q, l) := by
  unfold lstN
  rw [if_pos h]
theorem lstN_step {xs stops : List Int} {k r : Int} {f i e : Nat} {q q1 q2 : Nat × Int} {l : List Pm} {c : Int} {p : Pm} (h : isQ xs i q c = true) (he : untilL xs (i + 1) stops = e) (hp : prmQ xs (i + 1) e k q = (p, q1)) (hr : (if roomF l p.n ≠ 0 then failQ q1 (i + 1) (roomF l p.n) else q1) = q2) :
    lstN xs stops k r (f + 1) i q l c = lstN xs stops k r f e q2 (l ++ [p]) r := by
  rw [lstN, if_neg (by rw [h]; decide)]
  simp only [he, hp, hr]
structure LR (w : World) (b : Nat) (s : ByteArray) (i : Nat) (q : Nat × Int) (L : List Blk) (l : List Pm) (v : Value) (w' : World) : Prop where
  x : PX w b s i q L w'
  o : w'.ownsRow w.heap.size 56 3 v l.length (pms l)
section
variable {w w1 w2 : World} {b i j : Nat} {s : ByteArray} {q q' : Nat × Int} {L : List Blk} {l : List Pm} {v : Value}
theorem LR.then (h : LR w b s i q L l v w1) (h2 : RdX w1 b s j q' w2) : LR w b s j q' L l v w2 := by
  refine ⟨h.x.then h2, h.o.1, ?_⟩
  rcases h.o.2 with h0 | ⟨g, cap, cur, e1, e2, e3, e4⟩
  · exact .inl h0
  · have hlt := h.x.lt
    exact .inr ⟨g, cap, cur, e1, e2, (h2.g.block g (lt_of_block e3) (fun e => by injection e with e; omega)).trans e3, e4⟩
theorem LR.rds (h : LR w b s i q L l v w1) : ∃ A c, v = .slice A l.length c ∧ Rds w1 w1.heap.size A (pms l) := by
  obtain ⟨A, c, h1, _, h3⟩ := pms_rds (show VX 56 3 { w1 with heap := #[] } v l.length (pms l) w1 from ⟨⟨h.o.1, by
    rcases h.o.2 with h0 | ⟨g, cap, cur, e1, e2, e3⟩
    · exact .inl h0
    · exact .inr ⟨g, cap, cur, e1, Nat.zero_le _, e3⟩⟩, ⟨rfl, rfl, rfl, Nat.zero_le _, fun k hk => absurd hk (by simp)⟩⟩)
  exact ⟨A, c, h1, h3⟩
end
theorem wpList_pushRd {w wr : World} {b i : Nat} {s : ByteArray} {q : Nat × Int} {l : List Pm} {v : Value} {ops : Array Oper} {rest : List Oper} {o : Oper} {a : Act} {Q : Exit → Act → World → Prop} (hgd : o.guard = none) (x y : Operand)
    (ho : o.op = .call { callee := .builtin .append, args := #[x, y], argTypes := #[30, 30] }) (hs : a.eval x = v) (H : LR w b s i q [] l v wr) (p : Pm) (hy : a.eval y = .slice (some ⟨wr.heap.size, 0, none⟩) 1 1) (hb : l.length + 1 ≤ 16777216)
    (h : ∀ v' w', Hid (LR w b s i q [] (l ++ [p]) v' w') → wpList Tryz.prog ops Q rest (a.put o.dst v') w') : wpList Tryz.prog ops Q (o :: rest) a (wr.alloc (.cells #[.string (strOfNums p.n), .string (strOfNums p.v), .bool p.h] 56)) := by
  obtain ⟨n, hi, hz, hsz, hbt⟩ := infoPm
  have hbase : w.heap.size ≤ (wr.alloc (.cells #[.string (strOfNums p.n), .string (strOfNums p.v), .bool p.h] 56)).heap.size := by have := H.x.g.size; simp; omega
  refine wpList_append_own_at _ hgd x y 30 ho w.heap.size 56 n _ 3 40 Tryz.underlying30 hi hz hsz hbt rfl (by omega) v l.length (pms l) hs (H.o.alloc _) ⟨wr.heap.size, 0, none⟩ 1 1 [.string (strOfNums p.n), .string (strOfNums p.v), .bool p.h] hy rfl (fun j u hu => ?_) (pm_one _ _ _) (by unfold maxLen; omega) ?_ hbase ?_
  · rw [Addr.add_mid, Nat.zero_add]
    exact ((Row.new wr 56 [.string (strOfNums p.n), .string (strOfNums p.v), .bool p.h]).cell j).trans hu
  · omega
  · intro v' w' h2 h3 _ h5
    have hown : ∀ g, v.ownBlock = some g → w.heap.size ≤ g := own_block H.o
    refine h v' w' (kd ⟨⟨(H.x.r.alloc _).heap (h3.block b (by rw [World.size_alloc]; have := H.x.r.lt; omega) (fun e => by have := hown b e.symm; have := H.x.lt; omega)), ?_, (fun r hr => by cases hr), (fun r hr => by cases hr), H.x.lt⟩, ?_⟩)
    · have g1 := rgr_trans H.x.g (rgr_below (r := some b) ((Below.refl wr.heap.size wr).alloc (Nat.le_refl _) (.cells #[.string (strOfNums p.n), .string (strOfNums p.v), .bool p.h] 56)))
      exact ⟨h3.os.trans g1.os, h3.tape.trans g1.tape, h3.output.trans g1.output, Nat.le_trans g1.size h3.size, fun k hk hn => (h3.block k (Nat.lt_of_lt_of_le hk g1.size) (fun e => by have := hown k e.symm; omega)).trans (g1.block k hk hn)⟩
    · rw [pms_snoc, List.length_append]
      exact h2
end Go.Proofs.YthfonniieaiocaaGreatDoor
namespace Go.Proofs.YthfonniieaiocaaGreatDoor
open Go.RowKit

theorem LR.call {w w1 w2 : World} {b i : Nat} {s : ByteArray} {q : Nat × Int} {L : List Blk} {l : List Pm} {v : Value} (h : LR w b s i q L l v w1) (hb : Below w1.heap.size w1 w2) : LR w b s i q L l v w2 := h.then ⟨h.x.r.below hb, rgr_below hb⟩
theorem LR.atz {w w1 : World} {b i : Nat} {s : ByteArray} {q : Nat × Int} {L : List Blk} {l : List Pm} {v : Value} (h : LR w b s i q L l v w1) (j : Nat) {z : Int} (hz : z = (j : Nat)) : LR w b s j q L l v (w1.setCell ⟨b, 1, none⟩ (.int .i64 z)) := h.then ⟨(h.x.atz j hz).r, rgr_set _ _ _ _⟩
theorem prm_cells {xs : List Int} (hx : By xs) (a e : Nat) (k : Int) (q : Nat × Int) : (By (prmQ xs a e k q).1.n ∧ (prmQ xs a e k q).1.n.length ≤ xs.length) ∧ By (prmQ xs a e k q).1.v ∧ (prmQ xs a e k q).1.v.length ≤ xs.length := by
  have h1 := ctQ_by hx a (eqAt xs a e) k q
  unfold prmQ prmR
  dsimp only
  split
  · exact ⟨⟨lowS_by h1.1, by rw [lowS_len]; exact h1.2⟩, ctQ_by hx _ _ _ _⟩
  · exact ⟨⟨lowS_by h1.1, by rw [lowS_len]; exact h1.2⟩, (fun x h => by cases h), Nat.zero_le _⟩
theorem isQ_lt {xs : List Int} {i : Nat} {q : Nat × Int} {c : Int} (h : isQ xs i q c = true) : i < xs.length ∧ q.2 = 0 := by
  unfold isQ atL at h
  simp at h
  exact ⟨h.2.1, h.1⟩
set_option maxHeartbeats 4000000 in
theorem rlist_any (w : World) (b i : Nat) (s st : ByteArray) (q : Nat × Int) (c r k : Int) (h : RdR w b s i q) (hi : i ≤ s.size) (hs : s.size ≤ 1000000) (hst : st.size ≤ 1000) (hc : 0 ≤ c ∧ c < 256) (hr : 0 ≤ r ∧ r < 256) :
    Calls Tryz.prog 78 #[.pointer (some ⟨b, 0, none⟩), .int .u8 c, .int .u8 r, .string st, .int .i64 k] w fun e w' => ∃ v, e = .returned v ∧ RdX w b s (lstN (byteL s) (byteL st) k r (s.size + 1) i q [] c).1 (lstN (byteL s) (byteL st) k r (s.size + 1) i q [] c).2.1 w' ∧ w'.ownsRow w.heap.size 56 3 v (lstN (byteL s) (byteL st) k r (s.size + 1) i q [] c).2.2.length (pms (sortPm (lstN (byteL s) (byteL st) k r (s.size + 1) i q [] c).2.2)) := by
  have H0 := kd (PX.start h)
  have HL := kd (byteL_len s)
  have HB := kd (byteL_by s)
  have RG := kd (show w.heap.size ≤ w.heap.size from Nat.le_refl _)
  obtain ⟨R, hR⟩ : ∃ R, lstN (byteL s) (byteL st) k r (s.size + 1) i q [] c = R := ⟨_, rfl⟩
  rw [hR]
  have RR := kd hR
  have LR0 := kd (show LR w b s i q [] [] (.slice none 0 0) w from ⟨H0.out, rfl, .inl ⟨rfl, rfl⟩⟩)
  clear hR h H0 RG
  go_enter Tryz.func78, Tryz.ntmps78
  go_wp2_with fail
  go_loopw [11, 12] (fun v cv wr => ∃ (f i' : Nat) (q' : Nat × Int) (l' : List Pm) (v' : Value) (c' : Int), v = v' ∧ cv = .int .u8 c' ∧ Hid (LR w b s i' q' [] l' v' wr) ∧ i' ≤ s.size ∧ Hid (s.size ≤ i' + f) ∧ Hid (lstN (byteL s) (byteL st) k r (f + 1) i' q' l' c' = R) ∧ Hid (l'.length ≤ i') ∧ Hid (∀ p ∈ l', pmSz p) ∧ (0 ≤ c' ∧ c' < 256)) (fun _ _ wr => s.size - (intOf ((wr.cell? ⟨b, 1, none⟩).getD undef)).toNat)
  case atStart => exact ⟨s.size, i, q, [], _, c, rfl, rfl, LR0, hi, kd (by omega), RR, kd (Nat.zero_le _), kd (fun p hp => by cases hp), hc⟩
  case round =>
    clear LR0 RR
    obtain ⟨f, i', q', l', v', c', rfl, rfl, HR, hi', HF, RR, HN, HS, hc'⟩ := hrel
    have k1 := HR.out.x.r.cell 1
    simp only [rdC, List.getElem?_cons_succ, List.getElem?_cons_zero] at k1
    have IS := kd (ris_any _ b i' s q' c' HR.out.x.r)
    cases hq : isQ (byteL s) i' q' c' with
    | false =>
      have E := kd (RR.out.symm.trans (lstN_end hq))
      rw [hq] at IS
      obtain ⟨A, cp, rfl, hA⟩ := HR.out.rds
      replace hA := kd hA
      clear hq RR HF
      go_wp2_with (first
        | (go_at_call 141; refine IS.out.mono ?_; rintro _ w1 ⟨rfl, hb1⟩; have SO := kd (rsorted_any A l'.length cp l' w1 ((hA.out.below hb1).up hb1.size) rfl (by have := HN.out; omega) (fun p hp => (HS.out p hp).1)); have H1 := kd (HR.out.call hb1))
        | (go_at_call 47; refine SO.out.mono ?_; rintro _ w2 ⟨v2, rfl, V2⟩))
      go_ret
      refine ⟨_, rfl, ?_, ?_⟩
      · rw [E.out]; exact (H1.out.x.call V2.bw).end
      · rw [E.out]
        refine ⟨V2.o.1, ?_⟩
        rcases V2.o.2 with h0 | ⟨g, cap, cur, e1, e2, e3, e4⟩
        · exact .inl h0
        · exact .inr ⟨g, cap, cur, e1, Nat.le_trans H1.out.x.g.size e2, e3, e4⟩
    | true =>
      obtain ⟨hlt, hq0⟩ := isQ_lt hq
      rw [HL.out] at hlt
      obtain ⟨f', rfl⟩ : ∃ f', f = f' + 1 := ⟨f - 1, by have := HF.out; omega⟩
      obtain ⟨e, he⟩ : ∃ e, untilL (byteL s) (i' + 1) (byteL st) = e := ⟨_, rfl⟩
      have he2 := until_le (xs := byteL s) (a := i' + 1) (st := byteL st) (by rw [HL.out]; exact hlt)
      rw [he, HL.out] at he2
      obtain ⟨⟨p, q1⟩, hp⟩ : ∃ d, prmQ (byteL s) (i' + 1) e k q' = d := ⟨_, rfl⟩
      have PC := kd (prm_cells HB.out (i' + 1) e k q')
      rw [hp, HL.out] at PC
      obtain ⟨q2, hq2⟩ : ∃ q2, (if roomF l' p.n ≠ 0 then failQ q1 (i' + 1) (roomF l' p.n) else q1) = q2 := ⟨_, rfl⟩
      have E := kd (RR.out.symm.trans (lstN_step hq he hp hq2))
      rw [hq] at IS
      clear hq RR hq0
      replace hp := kd hp
      replace hq2 := kd hq2
      go_upto_region 7 with (first
        | (go_at_call 141; refine IS.out.mono ?_; rintro _ w1 ⟨rfl, hb1⟩; have H1 := kd (HR.out.call hb1); have k2 := H1.out.x.r.cell 1; (try simp only [rdC, List.getElem?_cons_succ, List.getElem?_cons_zero] at k2); have f2 := H1.out.x.r.frozen 1; have H2 := kd (H1.out.atz (i' + 1) (z := (i' : Int) + 1) rfl); have k3 := H2.out.x.r.cell 1; (try simp only [rdC, List.getElem?_cons_succ, List.getElem?_cons_zero] at k3); have UN := kd (runtil_any _ b (i' + 1) s st q' H2.out.x.r hlt (by omega) hst))
        | (go_at_call 74; refine UN.out.mono ?_; rintro _ w3 ⟨rfl, rfl⟩))
      have PA := kd (rparam_any _ b (i' + 1) e s q' k H2.out.x.r he2.1 he2.2 (by omega))
      rw [hp.out] at PA
      clear k2 f2 k3
      go_upto_region 8 with (first
        | (go_at_call 143; refine PA.out.mono ?_; rintro _ w4 ⟨rfl, h4⟩; have H4 := kd (H2.out.then h4))
        | (with_reducible refine wpList_storeN rfl 56 (.tmp 15) (.tmp 38) rfl [.string ⟨#[]⟩, .string ⟨#[]⟩, .bool false] [.string (strOfNums p.n), .string (strOfNums p.v), .bool p.h] rfl rfl rfl (sizePm _ _ _) (pm_one _ _ _) ?_; intro w5 R5 B5))
      have H5 := kd (H4.out.call B5.out)
      have H4g := kd H4.out.x.g.size
      obtain ⟨A, cp, hv, hA⟩ := H5.out.rds
      subst hv
      have RO := kd (rroom_any A l'.length cp l' p.n w5 hA rfl HS.out (by have := HN.out; omega) PC.out.1.1 (by have := PC.out.1.2; omega))
      have k5 := R5.out.cell 0
      clear hA H4 B5
      have h4g := H4g.out
      by_cases h0 : roomF l' p.n = 0
      · have Q2 := kd (show q1 = q2 from by have := hq2.out; rw [if_neg (fun h => h h0)] at this; exact this)
        rw [h0] at RO
        go_upto_region 11 with (go_at_call 115; refine RO.out.mono ?_; rintro _ w6 ⟨rfl, hb6⟩)
        have H6 := kd (H5.out.call hb6)
        have R6 := kd (R5.out.below hb6)
        obtain ⟨pn, pv, ph⟩ := p
        have B1 := kd (show l'.length + 1 ≤ 16777216 by have := HN.out; omega)
        go_wp2_with (first
          | (with_reducible refine wpList_loadR rfl 56 (.tmp 15) rfl R6.out rfl Tryz.underlying56 rfl (sizePm _ _ _) ?_)
          | (with_reducible refine wpList_pushRd rfl (.tmp 49) (.tmp 51) rfl rfl H6.out ⟨pn, pv, ph⟩ rfl B1.out ?_; intro v7 w7 H7))
        have k7 := H7.out.x.r.cell 1
        simp only [rdC, List.getElem?_cons_succ, List.getElem?_cons_zero] at k7
        go_roundw
        case rel => exact ⟨f', e, q2, l' ++ [⟨pn, pv, ph⟩], v7, r, rfl, rfl, kd (Q2.out ▸ H7.out), he2.2, kd (by have := HF.out; omega), kd E.out.symm, kd (by have := HN.out; rw [List.length_append, List.length_singleton]; omega), kd (fun p hp => by
          rcases List.mem_append.1 hp with h | h
          · exact HS.out p h
          · rw [List.mem_singleton] at h; subst h; exact ⟨PC.out.1.1, PC.out.2.1, by have := PC.out.1.2; omega, by have := PC.out.2.2; omega⟩), hr⟩
        case measure => rw [k7, k1]; simp [intOf]; omega
      · have rr : (roomF l' p.n != 0) = true := by simpa using h0
        have rr2 : (roomF l' p.n == 0) = false := by simpa using h0
        have Q2 := kd (show failQ q1 (i' + 1) (roomF l' p.n) = q2 from by have := hq2.out; rw [if_pos h0] at this; exact this)
        replace h0 := kd h0
        generalize roomF l' p.n = rm at *
        go_upto_region 11 with (first
          | (go_at_call 115; refine RO.out.mono ?_; rintro _ w6 ⟨rfl, hb6⟩; have H6a := kd (H5.out.call hb6))
          | (go_at_call 140; refine (rfail_any _ b e (i' + 1) s q1 rm H6a.out.x.r).mono ?_; rintro _ w6b ⟨rfl, h7⟩))
        have H6 := kd ((H5.out.call hb6).then h7)
        have R6 := kd (((R5.out.below hb6)).heap (h7.g.block _ (R5.out.below hb6).lt (fun e => by injection e with e; have := H2.out.x.lt; have h9 := h4g; omega)))
        obtain ⟨pn, pv, ph⟩ := p
        have B1 := kd (show l'.length + 1 ≤ 16777216 by have := HN.out; omega)
        go_wp2_with (first
          | (with_reducible refine wpList_loadR rfl 56 (.tmp 15) rfl R6.out rfl Tryz.underlying56 rfl (sizePm _ _ _) ?_)
          | (with_reducible refine wpList_pushRd rfl (.tmp 49) (.tmp 51) rfl rfl H6.out ⟨pn, pv, ph⟩ rfl B1.out ?_; intro v7 w7 H7))
        have k7 := H7.out.x.r.cell 1
        simp only [rdC, List.getElem?_cons_succ, List.getElem?_cons_zero] at k7
        go_roundw
        case rel => exact ⟨f', e, q2, l' ++ [⟨pn, pv, ph⟩], v7, r, rfl, rfl, kd (Q2.out ▸ H7.out), he2.2, kd (by have := HF.out; omega), kd E.out.symm, kd (by have := HN.out; rw [List.length_append, List.length_singleton]; omega), kd (fun p hp => by
          rcases List.mem_append.1 hp with h | h
          · exact HS.out p h
          · rw [List.mem_singleton] at h; subst h; exact ⟨PC.out.1.1, PC.out.2.1, by have := PC.out.1.2; omega, by have := PC.out.2.2; omega⟩), hr⟩
        case measure => rw [k7, k1]; simp [intOf]; omega
end Go.Proofs.YthfonniieaiocaaGreatDoor
namespace Go.Proofs.YthfonniieaiocaaGreatDoor
open Go.RowKit

theorem getD_take {xs : List Int} {k i : Nat} (h : i < k) : (xs.take k).getD i 0 = xs.getD i 0 := by
  rw [List.getD_eq_getElem?_getD, List.getD_eq_getElem?_getD, List.getElem?_take, if_pos h]
theorem esc_colon {xs : List Int} {i j k : Nat} (hj : xs.getD j 0 = 58) (hij : i < j) (hjk : j < k) (hk : k ≤ xs.length) : escAt (xs.take k) i = escAt (xs.take j) i := by
  have l1 : (xs.take k).length = k := by rw [List.length_take]; omega
  have l2 : (xs.take j).length = j := by rw [List.length_take]; omega
  unfold escAt
  rw [l1, l2]
  by_cases h : j ≤ i + 2
  · rw [if_pos, if_pos (.inl h)]
    rcases (show j = i + 1 ∨ j = i + 2 by omega) with e | e
    · subst e
      rw [getD_take hjk, hj]
      exact .inr (.inr (.inl (by decide)))
    · subst e
      rw [getD_take hjk, hj]
      exact .inr (.inr (.inr (by decide)))
  · have a0 : ¬ k ≤ i + 2 := by omega
    rw [getD_take (show i < k by omega), getD_take (show i + 1 < k by omega), getD_take (show i + 2 < k by omega), getD_take hij, getD_take (show i + 1 < j by omega), getD_take (show i + 2 < j by omega)]
    simp only [h, a0, false_or]
theorem esc_lt {xs : List Int} {i : Nat} (h : ¬ escAt xs i < 0) : i + 2 < xs.length := by
  by_cases h2 : xs.length ≤ i + 2
  · exfalso; apply h; unfold escAt; rw [if_pos (.inl h2)]; decide
  · omega
theorem wrong_colonN {xs : List Int} {j k : Nat} (hj : xs.getD j 0 = 58) (hjk : j < k) (hk : k ≤ xs.length) : ∀ (f g i : Nat), i ≤ j → j + 1 ≤ f + i → j + 1 ≤ g + i →
    wrongN (xs.take k) 0 f i = match wrongN (xs.take j) 0 g i with
      | some p => some p
      | none => some j
  | 0, _, i, h, h1, _ => by omega
  | _, 0, i, h, _, h2 => by omega
  | f + 1, g + 1, i, h, h1, h2 => by
    have l1 : (xs.take k).length = k := by rw [List.length_take]; omega
    have l2 : (xs.take j).length = j := by rw [List.length_take]; omega
    rw [wrongN_step, wrongN_step, l1, l2, if_neg (show ¬ k ≤ i by omega), getD_take (show i < k by omega)]
    by_cases e : i = j
    · subst e
      rw [hj, if_neg (by decide), if_pos (Nat.le_refl _), if_pos]
      left
      unfold escAt
      rw [if_pos]
      · decide
      · right; left; rw [getD_take hjk, hj]; decide
    · have hij : i < j := by omega
      rw [if_neg (show ¬ j ≤ i by omega), getD_take hij, esc_colon hj hij hjk hk]
      by_cases c1 : inC 0 (xs.getD i 0) = true
      · rw [if_pos c1, if_pos c1]
        exact wrong_colonN hj hjk hk f g (i + 1) (by omega) (by omega) (by omega)
      · rw [if_neg c1, if_neg c1]
        by_cases c2 : escAt (xs.take j) i < 0 ∨ isCtl (escAt (xs.take j) i) = true
        · rw [if_pos c2, if_pos c2]
        · rw [if_neg c2, if_neg c2]
          have h3 := esc_lt (fun h => c2 (.inl h))
          rw [l2] at h3
          exact wrong_colonN hj hjk hk f g (i + 3) (by omega) (by omega) (by omega)
theorem wrong_colon {xs : List Int} {a j k : Nat} (hj : xs.getD j 0 = 58) (haj : a ≤ j) (hjk : j < k) (hk : k ≤ xs.length) :
    wrongL (xs.take k) 0 a = match wrongL (xs.take j) 0 a with
      | some p => some p
      | none => some j := by
  unfold wrongL
  rw [List.length_take, List.length_take]
  exact wrong_colonN hj hjk hk _ _ a haj (by omega) (by omega)
end Go.Proofs.YthfonniieaiocaaGreatDoor
namespace Go.Proofs.YthfonniieaiocaaGreatDoor
open Go.RowKit

theorem roomF_low {l : List Pm} {n : List Int} (hl : ∀ p ∈ l, lowS p.n = p.n) (hn : lowS n = n) : roomF l n = roomL l n := by
  have h : (l.any fun p => lowS p.n == lowS n) = holdsL l n := by
    unfold holdsL
    rw [hn]
    induction l with
    | nil => rfl
    | cons p r ih =>
      rw [List.any_cons, List.any_cons, hl p (List.mem_cons_self ..), ih fun q hq => hl q (List.mem_cons_of_mem _ hq)]
  unfold roomF roomL
  rw [h]
theorem five (i : Nat) : ((i, 5) : Nat × Int).2 ≠ 0 := show (5 : Int) ≠ 0 by decide
theorem ctQ_bad {xs : List Int} {a e : Nat} {k : Int} {q : Nat × Int} (h : q.2 ≠ 0) : (ctQ xs a e k q).2 = q := by
  unfold ctQ
  split
  · rfl
  · exact failQ_bad h
def fldQ (xs : List Int) (l : List Pm) (a e : Nat) (k : Int) (q : Nat × Int) : Nat × Int :=
  if roomF l (prmQ xs a e k q).1.n ≠ 0 then failQ (prmQ xs a e k q).2 a (roomF l (prmQ xs a e k q).1.n) else (prmQ xs a e k q).2
theorem fldQ_bad {xs : List Int} {l : List Pm} {a e : Nat} {k : Int} {q z : Nat × Int} (h : (prmQ xs a e k q).2 = z) (hz : z.2 ≠ 0) : fldQ xs l a e k q = z := by
  unfold fldQ
  rw [h]
  split
  · exact failQ_bad hz
  · rfl
theorem prmR_bad {xs : List Int} {a b e : Nat} {k : Int} {q q1 z : Nat × Int} {T : List Int} (h : ctQ xs a b k q = (T, q1)) (hz : (if T = [] then failQ q1 a 5 else q1) = z) (h2 : z.2 ≠ 0) : (prmR xs a b e k q).2 = z := by
  unfold prmR
  simp only [h, hz]
  split
  · dsimp only
    rw [ctQ_bad h2]
    split
    · exact failQ_bad h2
    · rfl
  · dsimp only
    split
    · exact failQ_bad h2
    · rfl
theorem fldQ_law {xs : List Int} {l : List Pm} {a e : Nat} {k : Int} (hx : By xs) (hae : a ≤ e) (he : e ≤ xs.length) (hl : ∀ p ∈ l, lowS p.n = p.n) :
    match fieldL xs l a e k with
    | .error z => fldQ xs l a e k (0, 0) = z
    | .ok m => fldQ xs l a e k (0, 0) = (0, 0) ∧ m = l ++ [(prmQ xs a e k (0, 0)).1] := by
  obtain ⟨hb1, hb2⟩ := eqAt_le hae he
  have hz : ∀ i j, By (subL xs i j) := fun i j => hx.sub (subL_sub xs i j)
  have hP : prmQ xs a e k (0, 0) = prmR xs a (eqAt xs a e) e k (0, 0) := rfl
  unfold fieldL
  dsimp only
  generalize eqAt xs a e = b at *
  cases hw : wrongL (xs.take b) k a with
  | some i =>
    dsimp only
    refine fldQ_bad (hP ▸ prmR_bad (T := []) (q1 := (i, 5)) ?_ ((if_pos rfl).trans (failQ_bad (five i))) (five i)) (five i)
    unfold ctQ; rw [hw]; rfl
  | none =>
    dsimp only
    have h1 : ctQ xs a b k (0, 0) = (contL (subL xs a b), (0, 0)) := by unfold ctQ; rw [hw]
    rw [wrong_sub hb1 (by omega), Option.map_eq_none_iff] at hw
    obtain ⟨c1, c2, c3, c4⟩ := contL_ok (hz a b) hw
    by_cases hba : b = a
    · rw [if_pos hba]
      have h0 : contL (subL xs a b) = [] := c3.2 (List.eq_nil_of_length_eq_zero (by rw [subL_len (by omega)]; omega))
      subst hba
      refine fldQ_bad (z := (b, 5)) (hP ▸ prmR_bad h1 ?_ (five b)) (five b)
      rw [h0, if_pos rfl]; exact failQ_ok rfl
    · rw [if_neg hba]
      have hne : contL (subL xs a b) ≠ [] := fun h => by
        have := congrArg List.length (c3.1 h)
        rw [subL_len (by omega)] at this
        simp at this; omega
      have h2 : (if contL (subL xs a b) = [] then failQ (0, 0) a 5 else (0, 0)) = ((0, 0) : Nat × Int) := if_neg hne
      have RF : ∀ p : Pm, p.n = lowS (contL (subL xs a b)) → roomF l p.n = roomL l (lowS (contL (subL xs a b))) := fun p hp => by rw [hp]; exact roomF_low hl (lowS_idem _)
      by_cases hbe : b < e
      · rw [if_pos hbe]
        cases hw2 : wrongL (xs.take e) k (b + 1) with
        | some i =>
          dsimp only
          have h3 : ctQ xs (b + 1) e k (0, 0) = ([], (i, 5)) := by unfold ctQ; rw [hw2]; rfl
          refine fldQ_bad (z := (i, 5)) (hP ▸ ?_) (five i)
          rw [prmR_a hbe h1 h2 h3]
          dsimp only
          split
          · exact failQ_bad (five i)
          · rfl
        | none =>
          dsimp only
          have h3 : ctQ xs (b + 1) e k (0, 0) = (contL (subL xs (b + 1) e), (0, 0)) := by unfold ctQ; rw [hw2]
          rw [wrong_sub (by omega) he, Option.map_eq_none_iff] at hw2
          obtain ⟨d1, d2, d3, d4⟩ := contL_ok (hz (b + 1) e) hw2
          have hv : contL (subL xs (b + 1) e) = [] ↔ b + 1 = e := by
            rw [d3]
            constructor
            · intro h
              have := congrArg List.length h
              rw [subL_len he] at this
              simp at this; omega
            · intro h
              exact List.eq_nil_of_length_eq_zero (by rw [subL_len he]; omega)
          have hQ := prmR_a hbe h1 h2 h3
          by_cases hv2 : b + 1 = e ∧ k = 1
          · rw [if_pos hv2]
            refine fldQ_bad (z := (e, 5)) (hP ▸ ?_) (five e)
            rw [hQ, if_pos ⟨hv2.2, hv.2 hv2.1⟩, hv2.1]
            rfl
          · rw [if_neg hv2]
            rw [if_neg (fun h => hv2 ⟨hv.1 h.2, h.1⟩)] at hQ
            rw [← hP] at hQ
            have hr := RF (prmQ xs a e k (0, 0)).1 (by rw [hQ])
            by_cases h0 : roomL l (lowS (contL (subL xs a b))) ≠ 0
            · rw [if_pos h0]
              unfold fldQ
              rw [hr, if_pos h0, hQ]
              exact failQ_ok rfl
            · rw [if_neg h0]
              unfold fldQ
              rw [hr, if_neg h0, hQ]
              exact ⟨rfl, rfl⟩
      · obtain rfl : b = e := by omega
        rw [if_neg (Nat.lt_irrefl b)]
        have hQ := prmR_b h1 h2
        by_cases hk : k = 2
        · rw [if_pos hk]
          refine fldQ_bad (z := (b, 5)) (hP ▸ ?_) (five b)
          rw [hQ, if_pos hk]
          rfl
        · rw [if_neg hk]
          rw [if_neg hk, ← hP] at hQ
          have hr := RF (prmQ xs a b k (0, 0)).1 (by rw [hQ])
          by_cases h0 : roomL l (lowS (contL (subL xs a b))) ≠ 0
          · rw [if_pos h0]
            unfold fldQ
            rw [hr, if_pos h0, hQ]
            exact failQ_ok rfl
          · rw [if_neg h0]
            unfold fldQ
            rw [hr, if_neg h0, hQ]
            exact ⟨rfl, rfl⟩
theorem isQ_at {xs : List Int} {i : Nat} {c : Int} : isQ xs i (0, 0) c = atL xs i c := by unfold isQ; simp
theorem isQ_bad {xs : List Int} {i : Nat} {q : Nat × Int} {c : Int} (h : q.2 ≠ 0) : isQ xs i q c = false := by unfold isQ; simp [h]
theorem lstN_next {xs stops : List Int} {k r : Int} {f i e : Nat} {q : Nat × Int} {l : List Pm} {c : Int} (h : isQ xs i q c = true) (he : untilL xs (i + 1) stops = e) :
    lstN xs stops k r (f + 1) i q l c = lstN xs stops k r f e (fldQ xs l (i + 1) e k q) (l ++ [(prmQ xs (i + 1) e k q).1]) r := lstN_step (p := (prmQ xs (i + 1) e k q).1) (q1 := (prmQ xs (i + 1) e k q).2) h he rfl rfl
theorem lstN_bad {xs stops : List Int} {k r : Int} {f i : Nat} {q : Nat × Int} {l : List Pm} {c : Int} (h : q.2 ≠ 0) : lstN xs stops k r f i q l c = (i, q, l) := by
  cases f with
  | zero => rfl
  | succ f => exact lstN_end (isQ_bad h)
theorem LOK.low {k : Int} {l : List Pm} (h : LOK k l) : ∀ p ∈ l, lowS p.n = p.n := fun p hp => (h.f p hp).low
theorem lst_ps {xs stops : List Int} (hx : By xs) : ∀ (f a : Nat) (l : List Pm), a ≤ xs.length → LOK 1 l → xs.length + 1 ≤ f + a →
    match psN xs stops f a l with
    | .ok r => lstN xs stops 1 59 f a (0, 0) l 59 = (r.2, (0, 0), r.1)
    | .error z => (lstN xs stops 1 59 f a (0, 0) l 59).2.1 = z
  | 0, a, l, ha, hl, hf => by omega
  | f + 1, a, l, ha, hl, hf => by
    unfold psN
    by_cases h0 : atL xs a 59 = false
    · rw [if_pos h0]; exact lstN_end (isQ_at.trans h0)
    · rw [if_neg h0]
      have h1 := (atL_lt h0).1
      obtain ⟨u1, u2⟩ := until_le (st := stops) (show a + 1 ≤ xs.length by omega)
      rw [lstN_next (isQ_at.trans (by simpa using h0)) rfl]
      have hq := fldQ_law (k := 1) hx u1 u2 hl.low
      cases hfl : fieldL xs l (a + 1) (untilL xs (a + 1) stops) 1 with
      | error z =>
        rw [hfl] at hq
        dsimp only at hq ⊢
        rw [hq, lstN_bad (field_err u1 u2 hfl).2]
      | ok m =>
        rw [hfl] at hq
        dsimp only at hq ⊢
        rw [hq.1, ← hq.2]
        exact lst_ps hx f _ m u2 (field_ok hx u1 u2 (.inl rfl) hl hfl).1 (by omega)
theorem lst_hs {xs : List Int} (hx : By xs) : ∀ (f a : Nat) (l : List Pm) (c : Int), a ≤ xs.length → (a < xs.length → xs.getD a 0 = c) → LOK 2 l → xs.length + 1 ≤ f + a →
    match hsN xs f a l with
    | .ok r => (lstN xs [38] 2 38 f a (0, 0) l c).2 = ((0, 0), r)
    | .error z => (lstN xs [38] 2 38 f a (0, 0) l c).2.1 = z
  | 0, a, l, c, ha, hc, hl, hf => by omega
  | f + 1, a, l, c, ha, hc, hl, hf => by
    unfold hsN
    by_cases h0 : xs.length ≤ a
    · rw [if_pos h0]
      dsimp only
      rw [lstN_end]
      rw [isQ_at]; unfold atL; simp; omega
    · rw [if_neg h0]
      obtain ⟨u1, u2⟩ := until_le (st := [38]) (show a + 1 ≤ xs.length by omega)
      have hs : untilL xs (a + 1) [38] < xs.length → xs.getD (untilL xs (a + 1) [38]) 0 = 38 := fun h => by
        have := until_stop h
        simpa using this
      rw [lstN_next (by rw [isQ_at]; unfold atL; rw [hc (by omega)]; simp; omega) rfl]
      have hq := fldQ_law (k := 2) hx u1 u2 hl.low
      cases hfl : fieldL xs l (a + 1) (untilL xs (a + 1) [38]) 2 with
      | error z =>
        rw [hfl] at hq
        dsimp only at hq ⊢
        rw [hq, lstN_bad (field_err u1 u2 hfl).2]
      | ok m =>
        rw [hfl] at hq
        dsimp only at hq ⊢
        rw [hq.1, ← hq.2]
        exact lst_hs hx f _ m 38 u2 hs (field_ok hx u1 u2 (.inr rfl) hl hfl).1 (by omega)
theorem psN_end {xs stops : List Int} (hst : stops = [59, 63] ∨ stops = [59]) : ∀ (f a : Nat) (l : List Pm) {r : List Pm × Nat}, (a < xs.length → stops.contains (xs.getD a 0) = true) → xs.length + 1 ≤ f + a → psN xs stops f a l = .ok r → (r.2 < xs.length → stops = [59, 63] ∧ xs.getD r.2 0 = 63)
  | 0, a, l, r, ha, hf, h => by
    unfold psN at h
    injection h with h; subst h
    intro h2; dsimp only at h2; omega
  | f + 1, a, l, r, ha, hf, h => by
    unfold psN at h
    by_cases h0 : atL xs a 59 = false
    · rw [if_pos h0] at h
      injection h with h; subst h
      intro h2
      dsimp only at h2 ⊢
      have h3 := ha h2
      have h4 : xs.getD a 0 ≠ 59 := fun e => by unfold atL at h0; rw [e] at h0; simp at h0; omega
      rcases hst with e | e
      · rw [e] at h3; refine ⟨e, ?_⟩; simp at h3; rcases h3 with h3 | h3
        · exact absurd (by simpa using h3) h4
        · simpa using h3
      · rw [e] at h3; simp at h3; exact absurd (by simpa using h3) h4
    · rw [if_neg h0] at h
      have h1 := (atL_lt h0).1
      cases hfl : fieldL xs l (a + 1) (untilL xs (a + 1) stops) 1 with
      | error z => rw [hfl] at h; cases h
      | ok m =>
        rw [hfl] at h
        dsimp only at h
        exact psN_end hst f _ m (fun h => until_stop h) (by have := (until_le (st := stops) (show a + 1 ≤ xs.length by omega)).1; omega) h
end Go.Proofs.YthfonniieaiocaaGreatDoor
namespace Go.Proofs.YthfonniieaiocaaGreatDoor
open Go.RowKit

theorem user_colon {xs : List Int} {a j : Nat} (h0 : untilL xs a [64] < xs.length) (haj : a ≤ j) (hjk : j < untilL xs a [64]) (hj : xs.getD j 0 = 58) (hf : ∀ i, a ≤ i → i < j → xs.getD i 0 ≠ 58) :
    userL xs a = .error (match wrongL (xs.take j) 0 a with
      | some p => (p, 5)
      | none => (j, 15)) := by
  unfold userL
  dsimp only
  rw [if_neg (by omega), wrong_colon hj haj hjk (by omega)]
  cases hw : wrongL (xs.take j) 0 a with
  | some p =>
    have hp := wrong_le (by omega) hw
    dsimp only
    rw [if_neg (hf p hp.1 hp.2)]
  | none =>
    dsimp only
    rw [if_pos hj]
theorem user_none {xs : List Int} {a : Nat} (h : xs.length ≤ untilL xs a [64]) : userL xs a = .ok ([], a) := by
  unfold userL
  dsimp only
  rw [if_pos h]
theorem user_wrong {xs : List Int} {a k p : Nat} (hk : untilL xs a [64] = k) (h0 : k < xs.length) (hf : ∀ i, a ≤ i → i < k → xs.getD i 0 ≠ 58) (hw : wrongL (xs.take k) 0 a = some p) : userL xs a = .error (p, 5) := by
  have hp := wrong_le (by omega) hw
  unfold userL
  dsimp only
  rw [hk, if_neg (by omega), hw]
  dsimp only
  rw [if_neg (hf p hp.1 hp.2)]
theorem user_fine {xs : List Int} {a k : Nat} (hk : untilL xs a [64] = k) (h0 : k < xs.length) (hw : wrongL (xs.take k) 0 a = none) : userL xs a = if k = a then .error (k, 5) else .ok (contL (subL xs a k), k + 1) := by
  unfold userL
  dsimp only
  rw [hk, if_neg (by omega), hw]
def UsrX (xs : List Int) (a : Nat) (T : ByteArray) (z : Nat × Int) (j : Nat) : Prop := j ≤ xs.length ∧ match userL xs a with
  | .ok r => T = strOfNums r.1 ∧ z = (0, 0) ∧ j = r.2
  | .error e => z = e
def HstX (xs : List Int) (i : Nat) (q : Nat × Int) (T : ByteArray) (z : Nat × Int) (j : Nat) : Prop := j ≤ xs.length ∧ (q.2 ≠ 0 → z = q) ∧ (q = (0, 0) → match hostL (subL xs i (hostEnd xs i)) with
  | some h => T = strOfNums h ∧ z = (0, 0) ∧ j = hostEnd xs i
  | none => z = (i, 5))
def PrtX (xs : List Int) (i : Nat) (q : Nat × Int) (n : Int) (z : Nat × Int) (j : Nat) : Prop := j ≤ xs.length ∧ (q.2 ≠ 0 → z = q) ∧ (q = (0, 0) → match portL xs i with
  | .ok r => n = r.1 ∧ z = (0, 0) ∧ j = r.2
  | .error e => z = e)
def PhoX (xs : List Int) (a : Nat) (T : ByteArray) (z : Nat × Int) (j : Nat) : Prop := j ≤ xs.length ∧ match phoneL xs a with
  | .ok r => T = strOfNums r.1 ∧ z = (0, 0) ∧ j = r.2
  | .error e => z = e
theorem port_end {xs : List Int} {a : Nat} {r : Int × Nat} (ha : a ≤ xs.length) (h : portL xs a = .ok r) (h2 : r.2 < xs.length) : ([59, 63] : List Int).contains (xs.getD r.2 0) = true := by
  unfold portL at h
  by_cases h0 : atL xs a 58 = true
  · rw [if_pos h0] at h
    dsimp only at h
    split at h
    · cases h
    · split at h
      · cases h
      · injection h with h
        subst h
        exact until_stop h2
  · rw [if_neg h0] at h
    split at h
    · cases h
    · rename_i h3
      injection h with h
      subst h
      dsimp only at h2 ⊢
      rw [List.contains_iff_mem]
      by_cases e1 : atL xs a 59 = false
      · by_cases e2 : atL xs a 63 = false
        · exact absurd ⟨h2, e1, e2⟩ h3
        · rw [(atL_lt e2).2]; simp
      · rw [(atL_lt e1).2]; simp
theorem phone_end {xs : List Int} {a : Nat} {r : List Int × Nat} (h : phoneL xs a = .ok r) (h2 : r.2 < xs.length) : ([59] : List Int).contains (xs.getD r.2 0) = true := by
  unfold phoneL at h
  dsimp only at h
  split at h
  · cases h
  · split at h
    · cases h
    · split at h
      · cases h
      · injection h with h
        subst h
        exact until_stop h2
theorem tail_law {xs stops sc us ho : List Int} {po : Int} {a j4 j5 : Nat} {q4 q5 : Nat × Int} {l4 l5 : List Pm} (hx : By xs) (hst : stops = [59, 63] ∨ stops = [59]) (ha : a ≤ xs.length) (he : a < xs.length → stops.contains (xs.getD a 0) = true)
    (hp : lstN xs stops 1 59 (xs.length + 1) a (0, 0) [] 59 = (j4, q4, l4)) (hh : lstN xs [38] 2 38 (xs.length + 1) j4 q4 [] 63 = (j5, q5, l5)) :
    match tailL xs stops sc us ho po a with
    | .error z => q5 = z
    | .ok u => q5 = (0, 0) ∧ u = ⟨sc, us, ho, po, sortPm l4, sortPm l5⟩ := by
  have h1 := lst_ps (stops := stops) hx (xs.length + 1) a [] ha (LOK.nil 1) (by omega)
  have h2 := ps_ok (stops := stops) hx (xs.length + 1) a [] ha (LOK.nil 1)
  rw [hp] at h1
  unfold tailL
  cases hps : psN xs stops (xs.length + 1) a [] with
  | error z =>
    rw [hps] at h1 h2
    dsimp only at h1 h2 ⊢
    subst h1
    rw [lstN_bad h2.2] at hh
    injection hh with _ hh
    injection hh with hh _
    exact hh.symm
  | ok r =>
    rw [hps] at h1 h2
    dsimp only at h1 h2 ⊢
    obtain ⟨ps, b⟩ := r
    injection h1 with e1 e2
    injection e2 with e2 e3
    dsimp only at e1 e3 h2 ⊢
    subst e1 e2 e3
    have h3 := psN_end hst (xs.length + 1) a [] he (by omega) hps
    have h4 := lst_hs hx (xs.length + 1) j4 [] 63 h2.2 (fun h => (h3 h).2) (LOK.nil 2) (by omega)
    rw [hh] at h4
    cases hhs : hsN xs (xs.length + 1) j4 [] with
    | error z => rw [hhs] at h4; exact h4
    | ok hs =>
      rw [hhs] at h4
      dsimp only at h4 ⊢
      injection h4 with e4 e5
      subst e4 e5
      exact ⟨rfl, rfl⟩
def sipL (xs sc : List Int) (a : Nat) : Except (Nat × Int) Uri := match placeL xs a with
  | .error e => .error e
  | .ok (u, h, p, b) => tailL xs [59, 63] sc u h p b
def telL (xs sc : List Int) (a : Nat) : Except (Nat × Int) Uri := match phoneL xs a with
  | .error e => .error e
  | .ok (u, b) => tailL xs [59] sc u [] 0 b
theorem uri_long {xs : List Int} (h : 1024 < xs.length) : uriL xs = .error (1024, 4) := by unfold uriL; rw [if_pos h]
theorem uri_short {xs : List Int} (h : ¬ 1024 < xs.length) (h2 : xs.length ≤ untilL xs 0 [58]) : uriL xs = .error (xs.length, 5) := by unfold uriL; rw [if_neg h]; dsimp only; rw [if_pos h2]
theorem uri_sip {xs : List Int} {k : Nat} (h : ¬ 1024 < xs.length) (hk : untilL xs 0 [58] = k) (h2 : k < xs.length) (h3 : lowS (xs.take k) = SIPT ∨ lowS (xs.take k) = SIPST) : uriL xs = sipL xs (lowS (xs.take k)) (k + 1) := by
  unfold uriL; rw [if_neg h]; dsimp only; rw [hk, if_neg (by omega), if_pos h3]; rfl
theorem uri_tel {xs : List Int} {k : Nat} (h : ¬ 1024 < xs.length) (hk : untilL xs 0 [58] = k) (h2 : k < xs.length) (h3 : lowS (xs.take k) = TELT) : uriL xs = telL xs (lowS (xs.take k)) (k + 1) := by
  unfold uriL; rw [if_neg h]; dsimp only; rw [hk, if_neg (by omega), if_neg (by rw [h3]; decide), if_pos h3]; rfl
theorem uri_other {xs : List Int} {k : Nat} (h : ¬ 1024 < xs.length) (hk : untilL xs 0 [58] = k) (h2 : k < xs.length) (h3 : ¬ (lowS (xs.take k) = SIPT ∨ lowS (xs.take k) = SIPST)) (h4 : lowS (xs.take k) ≠ TELT) : uriL xs = .error (0, 15) := by
  unfold uriL; rw [if_neg h]; dsimp only; rw [hk, if_neg (by omega), if_neg h3, if_neg h4]
theorem sip_law {xs sc : List Int} {a j1 j2 j3 j4 j5 : Nat} {T Th : ByteArray} {n : Int} {q1 q2 q3 q4 q5 : Nat × Int} {l4 l5 : List Pm} (hx : By xs) (ha : a ≤ xs.length)
    (h1 : UsrX xs a T q1 j1) (h2 : HstX xs j1 q1 Th q2 j2) (h3 : PrtX xs j2 q2 n q3 j3)
    (hp : lstN xs [59, 63] 1 59 (xs.length + 1) j3 q3 [] 59 = (j4, q4, l4)) (hh : lstN xs [38] 2 38 (xs.length + 1) j4 q4 [] 63 = (j5, q5, l5)) :
    match sipL xs sc a with
    | .error z => q5 = z ∧ z.2 ≠ 0
    | .ok u => q5 = (0, 0) ∧ T = strOfNums u.us ∧ Th = strOfNums u.ho ∧ n = u.po ∧ u.sc = sc ∧ u.ps = sortPm l4 ∧ u.hs = sortPm l5 := by
  have BAD : q3.2 ≠ 0 → q5 = q3 := fun hq => by
    rw [lstN_bad hq] at hp
    injection hp with e1 e2
    injection e2 with e2 e3
    subst e1 e2 e3
    rw [lstN_bad hq] at hh
    injection hh with _ e2
    injection e2 with e2 _
    exact e2.symm
  have k1 := user_ok hx ha
  obtain ⟨hj1, h1⟩ := h1
  unfold sipL placeL
  cases hu : userL xs a with
  | error z =>
    rw [hu] at h1 k1
    dsimp only at h1 k1 ⊢
    subst h1
    have e2 := h2.2.1 k1.2
    subst e2
    have e3 := h3.2.1 k1.2
    subst e3
    exact ⟨BAD k1.2, k1.2⟩
  | ok r =>
    obtain ⟨u, b⟩ := r
    rw [hu] at h1 k1
    dsimp only at h1 k1 ⊢
    obtain ⟨rfl, rfl, rfl⟩ := h1
    obtain ⟨hj2, _, h2⟩ := h2
    replace h2 := h2 rfl
    cases hho : hostL (subL xs j1 (hostEnd xs j1)) with
    | none =>
      rw [hho] at h2
      dsimp only at h2 ⊢
      subst h2
      have e3 := h3.2.1 (five j1)
      subst e3
      exact ⟨BAD (five j1), five j1⟩
    | some h =>
      rw [hho] at h2
      dsimp only at h2 ⊢
      obtain ⟨rfl, rfl, rfl⟩ := h2
      obtain ⟨hj3, _, h3⟩ := h3
      replace h3 := h3 rfl
      have k3 := port_ok hj2
      cases hpo : portL xs (hostEnd xs j1) with
      | error z =>
        rw [hpo] at h3 k3
        dsimp only at h3 k3 ⊢
        subst h3
        exact ⟨BAD k3.2, k3.2⟩
      | ok r =>
        obtain ⟨p, c⟩ := r
        have pe := port_end hj2 hpo
        rw [hpo] at h3 k3
        dsimp only at h3 k3 pe ⊢
        obtain ⟨rfl, rfl, rfl⟩ := h3
        have ht := tail_law (sc := sc) (us := u) (ho := h) (po := n) hx (.inl rfl) hj3 pe hp hh
        have kt := tail_ok (stops := [59, 63]) (sc := sc) (us := u) (ho := h) (po := n) hx hj3
        cases htl : tailL xs [59, 63] sc u h n j3 with
        | error z => rw [htl] at ht kt; exact ⟨ht, kt.2⟩
        | ok v =>
          rw [htl] at ht
          obtain ⟨rfl, rfl⟩ := ht
          exact ⟨rfl, rfl, rfl, rfl, rfl, rfl, rfl⟩
theorem tel_law {xs sc : List Int} {a j1 j4 : Nat} {T : ByteArray} {q1 q4 : Nat × Int} {l4 : List Pm} (hx : By xs) (ha : a ≤ xs.length)
    (h1 : PhoX xs a T q1 j1) (hp : lstN xs [59] 1 59 (xs.length + 1) j1 q1 [] 59 = (j4, q4, l4)) :
    match telL xs sc a with
    | .error z => q4 = z ∧ z.2 ≠ 0
    | .ok u => q4 = (0, 0) ∧ T = strOfNums u.us ∧ u.ho = [] ∧ u.po = 0 ∧ u.sc = sc ∧ u.ps = sortPm l4 ∧ u.hs = [] := by
  have k1 := phone_ok ha
  obtain ⟨hj1, h1⟩ := h1
  unfold telL
  cases hu : phoneL xs a with
  | error z =>
    rw [hu] at h1 k1
    dsimp only at h1 k1 ⊢
    subst h1
    rw [lstN_bad k1.2] at hp
    injection hp with _ e2
    injection e2 with e2 _
    exact ⟨e2.symm, k1.2⟩
  | ok r =>
    have pe := phone_end hu
    obtain ⟨u, b⟩ := r
    rw [hu] at h1 k1
    dsimp only at h1 k1 pe ⊢
    obtain ⟨rfl, rfl, rfl⟩ := h1
    have g1 := lst_ps (stops := [59]) hx (xs.length + 1) j1 [] hj1 (LOK.nil 1) (by omega)
    have g2 := ps_ok (stops := [59]) hx (xs.length + 1) j1 [] hj1 (LOK.nil 1)
    rw [hp] at g1
    unfold tailL
    cases hps : psN xs [59] (xs.length + 1) j1 [] with
    | error z => rw [hps] at g1 g2; exact ⟨g1, g2.2⟩
    | ok r =>
      rw [hps] at g1 g2
      obtain ⟨ps, b⟩ := r
      dsimp only at g1 g2 ⊢
      injection g1 with e1 e2
      injection e2 with e2 e3
      subst e1 e2 e3
      have h3 := psN_end (.inr rfl) (xs.length + 1) j1 [] pe (by omega) hps
      have hb : ¬ j4 < xs.length := fun h => by have := (h3 h).1; cases this
      have e : hsN xs (xs.length + 1) j4 [] = .ok [] := by unfold hsN; rw [if_pos (by omega)]
      rw [e]
      exact ⟨rfl, rfl, rfl, rfl, rfl, rfl, rfl⟩
end Go.Proofs.YthfonniieaiocaaGreatDoor
namespace Go.Proofs.YthfonniieaiocaaGreatDoor
open Go.RowKit

set_option maxHeartbeats 1000000 in
theorem rnumb_any (s : ByteArray) (w : World) (hs : s.size ≤ 4000000) : Calls Tryz.prog 142 #[.string s] w fun e w' => e = .returned (decV (decnL (byteL s))) ∧ w = w' := by
  have HL := kd (byteL_len s)
  have HB := kd (byteL_by s)
  have IDX := kd (fun (i : Nat) (h : i < s.size) (w : World) => idx_str s (i := i) h (z := (i : Int)) rfl w)
  have E0 := kd (fun h => decnL_len (xs := byteL s) h)
  have E1 := kd (fun h => decnL_bad (xs := byteL s) h)
  have E2 := kd (fun h0 h1 h h2 => decnL_big (xs := byteL s) h0 h1 h h2)
  have E3 := kd (fun h0 h1 h h2 => decnL_ok (xs := byteL s) h0 h1 h h2)
  generalize decnL (byteL s) = D at *
  generalize byteL s = X at *
  go_enter Tryz.func142, Tryz.ntmps142
  go_wp2_with fail
  go_loop [4, 5] (fun vn vi => ∃ k : Nat, k ≤ s.size ∧ vi = .int .i64 k ∧ k ≤ 10 ∧ ∃ m : Int, vn = .int .i64 m ∧ 0 ≤ m ∧ m ≤ 9999999999 ∧ Hid (m = valL (X.take k) ∧ (X.take k).all isDig = true)) (fun vn vi => s.size - (intOf vi).toNat)
  case atStart => exact ⟨0, Nat.zero_le _, rfl, by decide, 0, rfl, by decide, by decide, kd ⟨rfl, rfl⟩⟩
  case round =>
    obtain ⟨k, hk, rfl, hk10, m, rfl, m0, m1, HK⟩ := hrel
    by_cases hlt : k < s.size
    · have hd : decide ((k : Int) < (s.size : Int)) = true := by simp; omega
      have dx := IDX.out k hlt
      have hkX : k < X.length := by rw [HL.out]; exact hlt
      have hx := HB.out _ (getD_mem hkX)
      have BAD := kd (fun h => E1.out (all_no (p := isDig) hkX h))
      have NXT := kd (fun (h : isDig (X.getD k 0) = true) => show (10 * m + (X.getD k 0 - 48)) = valL (X.take (k + 1)) ∧ (X.take (k + 1)).all isDig = true by
        rw [all_take_succ hkX, HK.out.2, h, take_snocI X hkX, valL_snoc, ← HK.out.1]
        exact ⟨rfl, rfl⟩)
      clear hkX
      generalize X.getD k 0 = x at *
      by_cases h48 : x < 48
      · have d1 : decide (x < 48) = true := by simp [h48]
        have E := kd (BAD.out (by unfold isDig; simp; omega))
        go_wp2_with fail
        go_ret2
        exact ⟨by rw [E.out]; rfl, rfl⟩
      · have d1 : decide (x < 48) = false := by simpa using h48
        by_cases h57 : 57 < x
        · have d2 : decide (57 < x) = true := by simp [h57]
          have E := kd (BAD.out (by unfold isDig; simp; omega))
          go_wp2_with fail
          go_ret2
          exact ⟨by rw [E.out]; rfl, rfl⟩
        · have d2 : decide (57 < x) = false := by simpa using h57
          by_cases h10 : 10 ≤ k
          · have d3 : decide ((10 : Int) ≤ (k : Int)) = true := by simp; omega
            have E := kd (E0.out (.inr (by rw [HL.out]; omega)))
            go_wp2_with fail
            go_ret2
            exact ⟨by rw [E.out]; rfl, rfl⟩
          · have d3 : decide ((10 : Int) ≤ (k : Int)) = false := by simp; omega
            have x0 : 48 ≤ x := by omega
            have x1 : x ≤ 57 := by omega
            have N := NXT.out (by unfold isDig; simp; omega)
            have NB := valL_le10 N.2 (by rw [List.length_take]; omega)
            rw [← N.1] at NB
            have NH := kd N
            obtain ⟨b0, b1⟩ := NB
            clear h48 h57 hx N BAD NXT
            go_wp2_with fail
            go_roundw
            case rel => exact ⟨k + 1, by omega, by go_num, by omega, 10 * m + (x - 48), by go_num, b0, b1, NH⟩
            case measure => simp [intOf]; omega
    · obtain rfl : k = s.size := by omega
      have hd : decide ((s.size : Int) < (s.size : Int)) = false := by simp
      have TK : X.take s.size = X := List.take_of_length_le (by rw [HL.out]; exact Nat.le_refl _)
      rw [TK] at HK
      clear IDX HB E1
      by_cases h0 : s.toList = []
      · have E := kd (E0.out (.inl (by rw [HL.out]; have := toList_nil.1 h0; rw [this]; decide)))
        have t3 : (s.toList == []) = true := by rw [h0]; rfl
        go_wp2_with fail
        go_ret2
        exact ⟨by rw [E.out]; rfl, rfl⟩
      · have t3 : (s.toList == []) = false := by simpa using h0
        have s1 : 1 ≤ s.size := by
          by_cases h : s.size = 0
          · exact absurd (toList_nil.2 (by cases s; simp_all [ByteArray.size])) h0
          · omega
        by_cases hb : 2147483647 < m
        · have d1 : decide (2147483647 < m) = true := by simp [hb]
          have E := kd (E2.out (by rw [HL.out]; exact s1) (by rw [HL.out]; exact hk10) HK.out.2 (by rw [← HK.out.1]; exact hb))
          go_wp2_with fail
          go_ret2
          exact ⟨by rw [E.out]; rfl, rfl⟩
        · have d1 : decide (2147483647 < m) = false := by simpa using hb
          have E := kd (E3.out (by rw [HL.out]; exact s1) (by rw [HL.out]; exact hk10) HK.out.2 (by rw [← HK.out.1]; omega))
          rw [← HK.out.1] at E
          have hb2 : m ≤ 2147483647 := by omega
          clear hb
          go_wp2_with fail
          go_ret2
          exact ⟨by rw [E.out]; rfl, rfl⟩
end Go.Proofs.YthfonniieaiocaaGreatDoor
