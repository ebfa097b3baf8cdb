/- Contract: the reference's Parse. -/
import Derived.Test.YthfonniieaiocaaGreatDoorXp
set_option linter.unusedVariables false
set_option linter.unusedSimpArgs false
namespace Go.Proofs.YthfonniieaiocaaGreatDoor
open Go.RowKit

def RL (r ub rb : Nat) (s : ByteArray) (i : Nat) (q : Nat × Int) (us : List Value) : List Blk := [(r, 93, rdC s i q), (ub, 32, us), (rb, 32, uZ)]
structure RP (w : World) (r ub rb : Nat) (s : ByteArray) (i : Nat) (q : Nat × Int) (us : List Value) (vs : List (Value × List Pm)) (wx : World) : Prop where
  m : Mine w wx (RL r ub rb s i q us) []
  v : ∀ x ∈ vs, VX 56 3 w x.1 x.2.length (pms x.2) wx
section
variable {w wx w2 : World} {r ub rb i j : Nat} {s : ByteArray} {q q' : Nat × Int} {us : List Value} {vs : List (Value × List Pm)}
theorem RP.rd (h : RP w r ub rb s i q us vs wx) : RdR wx r s i q := h.m.row (i := 0) rfl
theorem RP.ur (h : RP w r ub rb s i q us vs wx) : Row wx ub 32 us := h.m.row (i := 1) rfl
theorem RP.call (h : RP w r ub rb s i q us vs wx) (hb : Below wx.heap.size wx w2) : RP w r ub rb s i q us vs w2 := ⟨h.m.call hb, fun x hx => (h.v x hx).step hb⟩
theorem RP.then (h : RP w r ub rb s i q us vs wx) (h2 : RdX wx r s j q' w2) : RP w r ub rb s j q' us vs w2 := by
  have hm := h.m.grown h2.g
  refine ⟨⟨hm.bw, fun x hx => ?_, h.m.nd, fun F hF => by cases hF⟩, fun x hx => (h.v x hx).other hm.bw fun g hg => ?_⟩
  · rcases List.mem_cons.1 hx with rfl | hx
    · exact ⟨h2.r, h.m.ge (i := 0) rfl⟩
    · exact hm.rows x hx
  · exact h2.g.block g ((h.v x hx).own_lt hg) (fun e => rowT_nv h.rd (h.v x hx) (by decide) g hg (Option.some.inj e))
theorem RP.set (h : RP w r ub rb s i q us vs wx) (n : Nat) (u : Value) : RP w r ub rb s i q (us.set n u) vs (wx.setCell ⟨ub, n, none⟩ u) :=
  ⟨h.m.setCell (i := 1) (off := n) u rfl rfl, fun x hx => (h.v x hx).other (h.m.bw.setCell (h.m.ge (i := 1) rfl) u) fun g hg => Below.heap_setCell wx ⟨ub, n, none⟩ u g (rowT_nv h.ur (h.v x hx) (by decide) g hg)⟩
theorem RP.more (h : RP w r ub rb s i q us vs w2) {v : Value} {l : List Pm} {B : Nat} (hB : w.heap.size ≤ B) (ho : w2.ownsRow B 56 3 v l.length (pms l)) : RP w r ub rb s i q us ((v, l) :: vs) w2 := by
  refine ⟨h.m, fun x hx => ?_⟩
  rcases List.mem_cons.1 hx with rfl | hx
  · refine ⟨⟨ho.1, ?_⟩, h.m.bw⟩
    rcases ho.2 with h0 | ⟨g, cap, cur, e1, e2, e3, e4⟩
    · exact .inl h0
    · exact .inr ⟨g, cap, cur, e1, Nat.le_trans hB e2, e3, e4⟩
  · exact h.v x hx
theorem RP.lst (h : RP w r ub rb s i q us vs wx) (h2 : RdX wx r s j q' w2) {v : Value} {l : List Pm} (ho : w2.ownsRow wx.heap.size 56 3 v l.length (pms l)) : RP w r ub rb s j q' us ((v, l) :: vs) w2 :=
  (h.then h2).more h.m.bw.size ho
end
theorem mine_gb {w wx w9 : World} {L : List Blk} {FS : List (World → Prop)} {i b : Nat} {T : TypeId} {vs : List Value} (h : Mine w wx L FS) (hi : L[i]? = some (b, T, vs)) (hg : wx.grownBy w9 (some b)) : Below w.heap.size w w9 := h.bw.grown hg h.bw.size (fun k hk => by injection hk with hk; subst hk; exact h.ge hi)
theorem VX.put {w wx w9 : World} {v : Value} {n : Nat} {cs : List Value} {b : Nat} {T : TypeId} {us : List Value} (X : VX 56 3 w v n cs wx) (hr : Row wx b T us) (hT : T ≠ 56) (hb : Below w.heap.size w w9) (hg : wx.grownBy w9 (some b)) : VX 56 3 w v n cs w9 :=
  X.other hb fun g hg2 => hg.block g (X.own_lt hg2) (fun e => rowT_nv hr X hT g hg2 (Option.some.inj e))
def FinU (R : Except (Nat × Int) Uri) (q : Nat × Int) (sc us ho : ByteArray) (po : Int) (l1 l2 : List Pm) : Prop := match R with
  | .error z => q = z ∧ z.2 ≠ 0
  | .ok u => q = (0, 0) ∧ sc = strOfNums u.sc ∧ us = strOfNums u.us ∧ ho = strOfNums u.ho ∧ po = u.po ∧ l1 = u.ps ∧ l2 = u.hs
def SwF (w : World) (r ub rb : Nat) (s : ByteArray) (R : Except (Nat × Int) Uri) (wx : World) : Prop :=
  ∃ (i : Nat) (q : Nat × Int) (sc us ho : ByteArray) (po : Int) (v1 v2 : Value) (l1 l2 : List Pm), Hid (RP w r ub rb s i q [.string sc, .string us, .string ho, .int .i64 po, v1, v2] [(v1, l1), (v2, l2)] wx) ∧
    Hid (FinU R q sc us ho po l1 l2)
theorem VX.none {w wx : World} (hb : Below w.heap.size w wx) : VX 56 3 w (.slice none 0 0) ([] : List Pm).length (pms []) wx := ⟨World.ownsRow_nil _ _ _ _, hb⟩
theorem hst_state {xs : List Int} {i j : Nat} {q z : Nat × Int} {T : ByteArray} (h : HstX xs i q T z j) (hq : q = (0, 0) ∨ q.2 ≠ 0) : z = (0, 0) ∨ z.2 ≠ 0 := by
  rcases hq with e | e
  · have h2 := h.2.2 e
    split at h2
    · exact .inl h2.2.1
    · rw [h2]; exact .inr (five i)
  · rw [h.2.1 e]; exact .inr e
theorem usr_state {xs : List Int} {a j : Nat} {z : Nat × Int} {T : ByteArray} (h : UsrX xs a T z j) (hx : By xs) (ha : a ≤ xs.length) : z = (0, 0) ∨ z.2 ≠ 0 := by
  have h2 := h.2
  have h3 := user_ok hx ha
  split at h2
  · exact .inl h2.2.1
  · rename_i e he
    rw [he] at h3
    rw [h2]; exact .inr h3.2
theorem own_slice {w : World} {B n sz : Nat} {T : TypeId} {v : Value} {cs : List Value} (h : w.ownsRow B T sz v n cs) : ∃ A c, v = .slice A n c := by
  rcases h.2 with ⟨h0, h1⟩ | ⟨g, cap, cur, h1, _⟩
  · rw [h1, h0]; exact ⟨_, _, rfl⟩
  · exact ⟨_, _, h1⟩
theorem lstN_le {xs stops : List Int} {k r : Int} : ∀ (f i : Nat) (q : Nat × Int) (l : List Pm) (c : Int), i ≤ xs.length → (lstN xs stops k r f i q l c).1 ≤ xs.length
  | 0, i, q, l, c, h => h
  | f + 1, i, q, l, c, h => by
    by_cases h0 : isQ xs i q c = false
    · rw [lstN_end h0]; exact h
    · have h1 : isQ xs i q c = true := by simpa using h0
      rw [lstN_next h1 rfl]
      exact lstN_le f _ _ _ _ (until_le (isQ_lt h1).1).2
theorem own_sort {w : World} {B : Nat} {v : Value} {l : List Pm} (h : w.ownsRow B 56 3 v l.length (pms (sortPm l))) : w.ownsRow B 56 3 v (sortPm l).length (pms (sortPm l)) := by rw [sort_len]; exact h
theorem rlist_one (w : World) (b i : Nat) (s st : ByteArray) (stl : List Int) (q : Nat × Int) (c r k : Int) (h : RdR w b s i q) (hi : i ≤ s.size) (hs : s.size ≤ 1000000) (hst : st.size ≤ 1000) (he : byteL st = stl) (hc : 0 ≤ c ∧ c < 256) (hr : 0 ≤ r ∧ r < 256) :
    Calls Tryz.prog 78 #[.pointer (some ⟨b, 0, none⟩), .int .u8 c, .int .u8 r, .string st, .int .i64 k] w fun e w' => ∃ A n cp j z l, e = .returned (.slice A n cp) ∧ RdX w b s j z w' ∧ j ≤ s.size ∧ w'.ownsRow w.heap.size 56 3 (.slice A n cp) (sortPm l).length (pms (sortPm l)) ∧ lstN (byteL s) stl k r ((byteL s).length + 1) i q [] c = (j, z, l) := by
  refine (rlist_any w b i s st q c r k h hi hs hst hc hr).mono fun e w' hx => ?_
  obtain ⟨v, rfl, h1, h2⟩ := hx
  obtain ⟨A, cp, hv⟩ := own_slice h2
  subst hv
  have hle := lstN_le (xs := byteL s) (stops := byteL st) (k := k) (r := r) (s.size + 1) i q [] c (by rw [byteL_len]; exact hi)
  rw [byteL_len] at hle
  exact ⟨A, _, cp, _, _, _, rfl, h1, hle, own_sort h2, by rw [← he, byteL_len]⟩
theorem sw_sip {xs sc : List Int} {a : Nat} {R : Except (Nat × Int) Uri} {q5 : Nat × Int} {T Th : ByteArray} {n : Int} {l4 l5 : List Pm} (hR : R = sipL xs sc a)
    (h : match sipL xs sc a with
      | .error z => q5 = z ∧ z.2 ≠ 0
      | .ok u => q5 = (0, 0) ∧ T = strOfNums u.us ∧ Th = strOfNums u.ho ∧ n = u.po ∧ u.sc = sc ∧ u.ps = sortPm l4 ∧ u.hs = sortPm l5) : FinU R q5 (strOfNums sc) T Th n (sortPm l4) (sortPm l5) := by
  rw [hR]
  unfold FinU
  cases hs : sipL xs sc a with
  | error z => rw [hs] at h; exact h
  | ok u => rw [hs] at h; obtain ⟨h1, h2, h3, h4, h5, h6, h7⟩ := h; exact ⟨h1, by rw [h5], h2, h3, h4, h6.symm, h7.symm⟩
theorem sw_tel {xs sc : List Int} {a : Nat} {R : Except (Nat × Int) Uri} {q5 : Nat × Int} {T : ByteArray} {l4 : List Pm} (hR : R = telL xs sc a)
    (h : match telL xs sc a with
      | .error z => q5 = z ∧ z.2 ≠ 0
      | .ok u => q5 = (0, 0) ∧ T = strOfNums u.us ∧ u.ho = [] ∧ u.po = 0 ∧ u.sc = sc ∧ u.ps = sortPm l4 ∧ u.hs = []) : FinU R q5 (strOfNums sc) T ⟨#[]⟩ 0 (sortPm l4) [] := by
  rw [hR]
  unfold FinU
  cases hs : telL xs sc a with
  | error z => rw [hs] at h; exact h
  | ok u => rw [hs] at h; obtain ⟨h1, h2, h3, h4, h5, h6, h7⟩ := h; exact ⟨h1, by rw [h5], h2, by rw [h3]; rfl, h4.symm, h6.symm, h7.symm⟩
theorem quiet_sameC {P : Program} {o : Oper} {a : Act} {X : Type} {W : X → World} {K : Act → Prop} (ty : TypeId) (x y : Operand) (ho : o.op = .store ty x y) {b : Nat} {T : TypeId} {vs : List Value} (hC : ∀ z, Row (W z) b T vs)
    (hx : a.eval x = .pointer (some ⟨b, 0, none⟩)) (hy : a.eval y = .agg vs.toArray) (hi : (P.info? ty).map (·.size) = some vs.length) (h1 : ∀ u ∈ vs, u.oneCell' = true) (h : K (a.put o.dst undef)) : o.quiet P a (fun w' => ∃ z : X, w' = W z) K := by
  refine ⟨undef, fun w' ⟨z, hz⟩ => ?_, h⟩
  subst hz
  have hr := hC z
  have hs : vs.toArray.size = vs.length := by simp
  unfold Oper.quietAt execOp
  simp only [ho, hx, hy, Instr.storeAt, Instr.sureAddr, Sem.run_bind, Sem.run_pure, Result.andThen_ok, run_storeVar_mid (W z) b 0 ty vs.toArray (by rw [hs]; exact hr.there) (by rw [hs]; exact hi) (all_oneCell_toArray h1)]
  rw [show (W z).setCells b 0 vs = W z from setCells_id hr vs 0 (fun j u h => by rw [Nat.zero_add]; exact h)]
  exact ⟨rfl, rfl⟩
structure RPW (w0 : World) (r ub rb : Nat) (s : ByteArray) (i : Nat) (q : Nat × Int) (us : List Value) (vs : List (Value × List Pm)) where
  w : World
  h : RP w0 r ub rb s i q us vs w
theorem region_cls {P : Program} {id : Nat} {Q : Exit → Act → World → Prop} {a : Act} {w : World} {l : List Oper} {C : World → Prop} (hm : P.follows .mixedOrders = true) (hB : Region.lexB .any l.toArray = true) (hC : C w.drew)
    (h : wpQuiet P l.toArray C (fun a' => ∀ w', C w' → Q .normal a' w') l a) : (Code.region id l.toArray true).wp P Q a w :=
  wp_region_quiet (C := C) hm hB hC (by simpa using h)
set_option maxRecDepth 100000 in
set_option maxHeartbeats 400000 in
theorem rparse_any (s : ByteArray) (w : World) : Calls Tryz.prog 24 #[.string s] w (UriP w (uriL (byteL s))) := by
  have HL := kd (byteL_len s)
  have HB := kd (byteL_by s)
  have BAD := kd (fun w' n k (h : uriL (byteL s) = .error (n, k)) hb hk => UriP.bad (w := w) (w' := w') h hb hk)
  have GOOD := kd (fun w' sc us ho po ps hs v1 v2 (h : uriL (byteL s) = .ok ⟨sc, us, ho, po, ps, hs⟩) h1 h2 => UriP.good (w := w) (w' := w') (v1 := v1) (v2 := v2) h h1 h2)
  obtain ⟨k, hk⟩ : ∃ k, untilL (byteL s) 0 [58] = k := ⟨_, rfl⟩
  have UL := until_le (xs := byteL s) (a := 0) (st := [58]) (Nat.zero_le _)
  rw [hk, HL.out] at UL
  have kl := UL.2
  have LONG := kd (fun (h : 1024 < s.size) => uri_long (xs := byteL s) (by rw [HL.out]; exact h))
  have SHORT := kd (fun (h : ¬ 1024 < s.size) (h2 : k = s.size) => (uri_short (xs := byteL s) (by rw [HL.out]; exact h) (by rw [hk, HL.out, h2]; exact Nat.le_refl _)).trans (by rw [HL.out]))
  have US := kd (fun (h : ¬ 1024 < s.size) (h2 : k < s.size) h3 => uri_sip (xs := byteL s) (by rw [HL.out]; exact h) hk (by rw [HL.out]; exact h2) h3)
  have UT := kd (fun (h : ¬ 1024 < s.size) (h2 : k < s.size) h3 => uri_tel (xs := byteL s) (by rw [HL.out]; exact h) hk (by rw [HL.out]; exact h2) h3)
  have UO := kd (fun (h : ¬ 1024 < s.size) (h2 : k < s.size) h3 h4 => uri_other (xs := byteL s) (by rw [HL.out]; exact h) hk (by rw [HL.out]; exact h2) h3 h4)
  have TK := kd (take_extract s k)
  have ES : s.size ≤ 1024 → (s.extract 0 k).size ≤ 4000000 := fun h => by rw [← byteL_len, TK.out, List.length_take]; omega
  have LW := kd (fun w h => reflower_any (s.extract 0 k) w (ES h))
  rw [TK.out] at LW
  have SB := lowS_by (HB.out.sub (List.take_sublist k _))
  obtain ⟨sc, hsc⟩ : ∃ sc, lowS ((byteL s).take k) = sc := ⟨_, rfl⟩
  rw [hsc] at LW SB US UT UO
  have HSB := kd SB
  have HK := kd hk
  clear TK ES hsc SB hk UL
  generalize UriP w (uriL (byteL s)) = PP at *
  generalize uriL (byteL s) = R at *
  have M0 := kd ((Mine.refl w).alloc 32 [.string ⟨#[]⟩, .string ⟨#[]⟩, .string ⟨#[]⟩, .int .i64 0, .slice none 0 0, .slice none 0 0])
  go_enter Tryz.func24, Tryz.ntmps24
  by_cases hbig : 1024 < s.size
  · have dd : decide ((1024 : Int) < (s.size : Int)) = true := by simp; omega
    have E := kd (LONG.out hbig)
    clear LONG SHORT US UT UO LW
    have RR := kd (show Row _ w.heap.size 32 [.string ⟨#[]⟩, .string ⟨#[]⟩, .string ⟨#[]⟩, .int .i64 0, .slice none 0 0, .slice none 0 0] from M0.out.row (i := 0) rfl)
    have GB := kd (fun w9 (hg : World.grownBy _ w9 (some w.heap.size)) => mine_gb M0.out (i := 0) rfl hg)
    go_wp2_with (with_reducible refine wpList_storeG rfl 32 (.tmp 2) (.tmp 11) rfl RR.out [.string ⟨#[]⟩, .string ⟨#[]⟩, .string ⟨#[]⟩, .int .i64 0, .slice none 0 0, .slice none 0 0] rfl rfl (lenU _ _ _ _ _ _ _ _ _ _ _ _) (sizeU _ _ _ _ _ _) (u_one _ _ _ _) ?_)
    intro w9 R9 G9
    have BW9 := kd (GB.out _ G9.out)
    go_wp2_with fail
    exact bodyPost_ret (results_cuv rfl _ _ _ w.heap.size [.string ⟨#[]⟩, .string ⟨#[]⟩, .string ⟨#[]⟩, .int .i64 0, .slice none 0 0, .slice none 0 0] _ rfl R9.out.range Tryz.underlying32 rfl (sizeU _ _ _ _ _ _)) rfl (by exact BAD.out _ _ _ E.out BW9.out (by decide))
  have dd : decide ((1024 : Int) < (s.size : Int)) = false := by simp; omega
  have hs : s.size ≤ 1024 := by omega
  have SHORT2 := kd (SHORT.out hbig)
  have US2 := kd (fun h => US.out hbig h)
  have UT2 := kd (fun h => UT.out hbig h)
  have UO2 := kd (fun h => UO.out hbig h)
  have LW2 := kd (fun w => LW.out w hs)
  clear hbig LONG SHORT US UT UO LW
  have M1a : Mine w ((w.alloc (.cells #[.string ⟨#[]⟩, .string ⟨#[]⟩, .string ⟨#[]⟩, .int .i64 0, .slice none 0 0, .slice none 0 0] 32)).alloc (.cells #[.string s, .int .i64 0, .int .i64 0, .int .u8 0] 93)) [((w.alloc (.cells #[.string ⟨#[]⟩, .string ⟨#[]⟩, .string ⟨#[]⟩, .int .i64 0, .slice none 0 0, .slice none 0 0] 32)).heap.size, 93, rdC s 0 (0, 0)), (w.heap.size, 32, [.string ⟨#[]⟩, .string ⟨#[]⟩, .string ⟨#[]⟩, .int .i64 0, .slice none 0 0, .slice none 0 0])] [] := M0.out.alloc 93 (rdC s 0 (0, 0))
  rw [World.size_alloc] at M1a
  have M1 := kd M1a
  clear M1a M0
  go_upto_region 4 with (fail)
  generalize (w.alloc (.cells #[.string ⟨#[]⟩, .string ⟨#[]⟩, .string ⟨#[]⟩, .int .i64 0, .slice none 0 0, .slice none 0 0] 32)).alloc (.cells #[.string s, .int .i64 0, .int .i64 0, .int .u8 0] 93) = wb at *
  have UN := kd (runtil_any wb (w.heap.size + 1) 0 s ⟨#[58]⟩ (0, 0) (M1.out.row (i := 0) rfl) (Nat.zero_le _) (by omega) (by decide))
  rw [show byteL ⟨#[58]⟩ = [58] by rfl, HK.out] at UN
  obtain ⟨r, hr⟩ : ∃ r, w.heap.size + 1 = r := ⟨_, rfl⟩
  rw [hr] at UN M1 ⊢
  clear hr
  go_upto_region 5 with (go_at_call 74; refine UN.out.mono ?_; rintro _ w1 ⟨rfl, rfl⟩)
  by_cases hk2 : k = s.size
  · have E := kd (SHORT2.out hk2)
    have d2 : ((k : Int) == (s.size : Int)) = true := by simp; omega
    clear UN US2 UT2 UO2 LW2
    have RR := kd (show Row _ w.heap.size 32 [.string ⟨#[]⟩, .string ⟨#[]⟩, .string ⟨#[]⟩, .int .i64 0, .slice none 0 0, .slice none 0 0] from M1.out.row (i := 1) rfl)
    have GB := kd (fun w9 (hg : World.grownBy _ w9 (some w.heap.size)) => mine_gb M1.out (i := 1) rfl hg)
    go_wp2_with (with_reducible refine wpList_storeG rfl 32 (.tmp 2) (.tmp 21) rfl RR.out [.string ⟨#[]⟩, .string ⟨#[]⟩, .string ⟨#[]⟩, .int .i64 0, .slice none 0 0, .slice none 0 0] rfl rfl (lenU _ _ _ _ _ _ _ _ _ _ _ _) (sizeU _ _ _ _ _ _) (u_one _ _ _ _) ?_)
    intro w9 R9 G9
    have BW9 := kd (GB.out _ G9.out)
    go_wp2_with fail
    exact bodyPost_ret (results_cuv rfl _ _ _ w.heap.size [.string ⟨#[]⟩, .string ⟨#[]⟩, .string ⟨#[]⟩, .int .i64 0, .slice none 0 0, .slice none 0 0] _ rfl R9.out.range Tryz.underlying32 rfl (sizeU _ _ _ _ _ _)) rfl (by exact BAD.out _ _ _ E.out BW9.out (by decide))
  have d2 : ((k : Int) == (s.size : Int)) = false := by simp; omega
  have hks : k + 1 ≤ s.size := by omega
  have i1 : (k : Int) ≤ (s.size : Int) := by omega
  have US := kd (US2.out hks)
  have UT := kd (UT2.out hks)
  have UO := kd (UO2.out hks)
  clear UN hk2 SHORT2 US2 UT2 UO2
  go_upto_region 8 with (first
    | (go_at_call 65; refine (LW2.out _).mono ?_; rintro _ w3 ⟨rfl, hb3⟩; have M3 := kd (M1.out.call hb3))
    | (with_reducible refine wpList_storeN rfl 32 (.tmp 7) (.tmp 28) rfl [.string ⟨#[]⟩, .string ⟨#[]⟩, .string ⟨#[]⟩, .int .i64 0, .slice none 0 0, .slice none 0 0] [.string (strOfNums sc), .string ⟨#[]⟩, .string ⟨#[]⟩, .int .i64 0, .slice none 0 0, .slice none 0 0] rfl rfl (lenU _ _ _ _ _ _ _ _ _ _ _ _) (sizeU _ _ _ _ _ _) (u_one _ _ _ _) ?_; intro w4 R4 B4))
  have M4 := kd (M3.out.join B4.out (Nat.le_refl _) R4.out)
  have RP0 := kd (show RP w _ w3.heap.size _ s 0 (0, 0) [.string (strOfNums sc), .string ⟨#[]⟩, .string ⟨#[]⟩, .int .i64 0, .slice none 0 0, .slice none 0 0] [] w4 from ⟨M4.out.sub (fun x hx => by
    simp only [RL, List.mem_cons, List.not_mem_nil, or_false] at hx ⊢
    rcases hx with rfl | rfl | rfl
    · exact .inr (.inl rfl)
    · exact .inl rfl
    · exact .inr (.inr rfl)) ((List.Perm.swap _ _ _).nodup_iff.1 M4.out.nd), (fun x hx => by cases hx)⟩)
  clear M4 R4 B4 M3 hb3 M1 LW2
  generalize w3.heap.size = ub at *
  have k1 := RP0.out.rd.cell 1
  have f1 := RP0.out.rd.frozen 1
  simp only [rdC, List.getElem?_cons_succ, List.getElem?_cons_zero] at k1
  have RP1 := kd (show RP w r ub w.heap.size s (k + 1) (0, 0) [.string (strOfNums sc), .string ⟨#[]⟩, .string ⟨#[]⟩, .int .i64 0, .slice none 0 0, .slice none 0 0] [] (w4.setCell ⟨r, 1, none⟩ (.int .i64 ((k : Int) + 1))) from RP0.out.then ((RdX.refl RP0.out.rd).at (k + 1)))
  have c0 := RP1.out.ur.cell 0
  simp only [List.getElem?_cons_zero] at c0
  have Q1 := lit_beq HSB.out [115, 105, 112]
  have Q2 := lit_beq HSB.out [115, 105, 112, 115]
  have Q3 := lit_beq HSB.out [116, 101, 108]
  rw [show bl [115, 105, 112] = SIPT from rfl] at Q1
  rw [show bl [115, 105, 112, 115] = SIPST from rfl] at Q2
  rw [show bl [116, 101, 108] = TELT from rfl] at Q3
  have HQ1 := kd Q1; have HQ2 := kd Q2; have HQ3 := kd Q3
  clear Q1 Q2 Q3
  go_upto_region 9 with (fail)
  clear k1 f1 RP0
  generalize w4.setCell ⟨r, 1, none⟩ (.int .i64 ((k : Int) + 1)) = w5 at *
  go_upto_block 0 with (fail)
  go_cut [40] (fun _ wx => SwF w r ub w.heap.size s R wx)
  case first =>
    go_upto_if 37 with (fail)
    go_cut [37] (fun v wx => v = .bool (decide (sc = SIPT ∨ sc = SIPST)) ∧ wx = w5)
    case first =>
      by_cases h1 : sc = SIPT
      · have q1 : ((strOfNums sc).toList == [115, 105, 112]) = true := HQ1.out.trans (by rw [h1]; rfl)
        rw [q1]
        have d1 := kd (decide_eq_true (p := sc = SIPT ∨ sc = SIPST) (.inl h1))
        clear h1
        go_wp2_with fail
        go_meet
        exact ⟨congrArg Value.bool d1.out.symm, rfl⟩
      · have q1 : ((strOfNums sc).toList == [115, 105, 112]) = false := HQ1.out.trans (by simpa using fun e => h1 e.symm)
        rw [q1]
        by_cases h2 : sc = SIPST
        · have q2 : ((strOfNums sc).toList == [115, 105, 112, 115]) = true := HQ2.out.trans (by rw [h2]; rfl)
          have d1 := kd (decide_eq_true (p := sc = SIPT ∨ sc = SIPST) (.inr h2))
          clear h1 h2
          go_wp2_with fail
          go_meet
          exact ⟨congrArg Value.bool d1.out.symm, rfl⟩
        · have q2 : ((strOfNums sc).toList == [115, 105, 112, 115]) = false := HQ2.out.trans (by simpa using fun e => h2 e.symm)
          have d1 := kd (decide_eq_false (p := sc = SIPT ∨ sc = SIPST) (by rintro (h | h); exact h1 h; exact h2 h))
          clear h1 h2
          go_wp2_with fail
          go_meet
          exact ⟨congrArg Value.bool d1.out.symm, rfl⟩
    case rest =>
      first | (rename_i KK hKK; obtain ⟨rfl, rfl⟩ := hcut; refine hKK _ _ ?_; clear hKK KK) | obtain ⟨rfl, rfl⟩ := hcut
      by_cases hsip : sc = SIPT ∨ sc = SIPST
      · rw [decide_eq_true hsip]
        have RS := kd (US.out hsip)
        clear US UT UO HQ1 HQ2 HQ3 hsip c0 BAD GOOD
        have CC := kd (ruser_any _ r (k + 1) s RP1.out.rd hks (by omega))
        go_upto_region 14 with (go_at_call 75; refine CC.out.mono ?_; rintro _ w6 ⟨T1, z1, j1, rfl, hh, U1⟩; have A1 := kd (RP1.out.then hh); have cf := A1.out.ur.cell 1; (try simp only [List.getElem?_cons_succ, List.getElem?_cons_zero] at cf); have ff := A1.out.ur.frozen 1)
        have RP2a := A1.out.set 1 (.string T1)
        simp only [List.set_cons_succ, List.set_cons_zero] at RP2a
        have RP2 := kd RP2a
        clear RP2a cf ff hh A1 RP1 CC
        generalize World.setCell _ ⟨ub, 1, none⟩ (.string T1) = wv6 at *
        have z1q := usr_state U1 HB.out (by rw [HL.out]; exact hks)
        have j1l : j1 ≤ s.size := by rw [← HL.out]; exact U1.1
        have CC := kd (rdhost_any _ r j1 s z1 z1q RP2.out.rd j1l (by omega))
        go_upto_region 15 with (go_at_call 76; refine CC.out.mono ?_; rintro _ w7 ⟨T2, z2, j2, rfl, hh, U2⟩; have A2 := kd (RP2.out.then hh); have cf := A2.out.ur.cell 2; (try simp only [List.getElem?_cons_succ, List.getElem?_cons_zero] at cf); have ff := A2.out.ur.frozen 2)
        have RP3a := A2.out.set 2 (.string T2)
        simp only [List.set_cons_succ, List.set_cons_zero] at RP3a
        have RP3 := kd RP3a
        clear RP3a cf ff hh A2 RP2 CC
        generalize World.setCell _ ⟨ub, 2, none⟩ (.string T2) = wv7 at *
        have z2q := hst_state U2 z1q
        have j2l : j2 ≤ s.size := by rw [← HL.out]; exact U2.1
        have CC := kd (rport_any _ r j2 s z2 z2q RP3.out.rd j2l (by omega))
        go_upto_region 16 with (go_at_call 77; refine CC.out.mono ?_; rintro _ w8 ⟨n3, z3, j3, rfl, hh, U3⟩; have A3 := kd (RP3.out.then hh); have cf := A3.out.ur.cell 3; (try simp only [List.getElem?_cons_succ, List.getElem?_cons_zero] at cf); have ff := A3.out.ur.frozen 3)
        have RP4a := A3.out.set 3 (.int .i64 n3)
        simp only [List.set_cons_succ, List.set_cons_zero] at RP4a
        have RP4 := kd RP4a
        clear RP4a cf ff hh A3 RP3 CC
        generalize World.setCell _ ⟨ub, 3, none⟩ (.int .i64 n3) = wv8 at *
        have j3l : j3 ≤ s.size := by rw [← HL.out]; exact U3.1
        have CC := kd (rlist_one _ r j3 s ⟨#[59, 63]⟩ [59, 63] z3 59 59 1 RP4.out.rd j3l (by omega) (by decide) rfl (by decide) (by decide))
        go_upto_region 17 with (go_at_call 78; refine CC.out.mono ?_; rintro _ w9 ⟨A4, n4, c4, j4, z4, l4, rfl, hh, j4l, o4, L4⟩; have A4x := kd (RP4.out.lst hh o4); have cf := A4x.out.ur.cell 4; (try simp only [List.getElem?_cons_succ, List.getElem?_cons_zero] at cf); have ff := A4x.out.ur.frozen 4)
        have RP5a := A4x.out.set 4 (.slice A4 n4 c4)
        simp only [List.set_cons_succ, List.set_cons_zero] at RP5a
        have RP5 := kd RP5a
        clear RP5a cf ff hh A4x RP4 CC
        generalize World.setCell _ ⟨ub, 4, none⟩ (.slice A4 n4 c4) = wv9 at *
        have CC := kd (rlist_one _ r j4 s ⟨#[38]⟩ [38] z4 63 38 2 RP5.out.rd j4l (by omega) (by decide) rfl (by decide) (by decide))
        go_wp2_with (go_at_call 78; refine CC.out.mono ?_; rintro _ w10 ⟨A5, n5, c5, j5, z5, l5, rfl, hh, j5l, o5, L5⟩; have A5x := kd (RP5.out.lst hh o5); have cf := A5x.out.ur.cell 5; (try simp only [List.getElem?_cons_succ, List.getElem?_cons_zero] at cf); have ff := A5x.out.ur.frozen 5)
        have RP6a := A5x.out.set 5 (.slice A5 n5 c5)
        simp only [List.set_cons_succ, List.set_cons_zero] at RP6a
        have RP6 := kd RP6a
        have SL := sip_law (sc := sc) HB.out (by rw [HL.out]; exact hks) U1 U2 U3 L4 L5
        go_meet
        exact ⟨j5, z5, _, T1, T2, n3, _, _, _, _, kd ⟨RP6.out.m, fun x hx => RP6.out.v x (by simpa [or_comm] using hx)⟩, kd (sw_sip RS.out SL)⟩
      · rw [decide_eq_false hsip]
        by_cases htel : sc = TELT
        · have q3 : ((strOfNums sc).toList == [116, 101, 108]) = true := HQ3.out.trans (by rw [htel]; rfl)
          have RT := kd (UT.out htel)
          clear US UT UO HQ1 HQ2 HQ3 hsip c0 BAD GOOD htel
          go_upto_region 19 with (fail)
          clear q3
          have CC := kd (rtel_any _ r (k + 1) s RP1.out.rd hks (by omega))
          go_upto_region 20 with (go_at_call 79; refine CC.out.mono ?_; rintro _ w6 ⟨T1, z1, j1, rfl, hh, U1⟩; have A1 := kd (RP1.out.then hh); have cf := A1.out.ur.cell 1; (try simp only [List.getElem?_cons_succ, List.getElem?_cons_zero] at cf); have ff := A1.out.ur.frozen 1)
          have RP2a := A1.out.set 1 (.string T1)
          simp only [List.set_cons_succ, List.set_cons_zero] at RP2a
          have RP2 := kd RP2a
          clear RP2a cf ff hh A1 RP1 CC
          generalize World.setCell _ ⟨ub, 1, none⟩ (.string T1) = wv6 at *
          have j1l : j1 ≤ s.size := by rw [← HL.out]; exact U1.1
          have CC := kd (rlist_one _ r j1 s ⟨#[59]⟩ [59] z1 59 59 1 RP2.out.rd j1l (by omega) (by decide) rfl (by decide) (by decide))
          go_wp2_with (go_at_call 78; refine CC.out.mono ?_; rintro _ w10 ⟨A5, n5, c5, j5, z5, l5, rfl, hh, j5l, o5, L5⟩; have A5x := kd (RP2.out.lst hh o5); have cf := A5x.out.ur.cell 4; (try simp only [List.getElem?_cons_succ, List.getElem?_cons_zero] at cf); have ff := A5x.out.ur.frozen 4)
          have RP6a := A5x.out.set 4 (.slice A5 n5 c5)
          simp only [List.set_cons_succ, List.set_cons_zero] at RP6a
          have RP6 := kd RP6a
          have SL := tel_law (sc := sc) HB.out (by rw [HL.out]; exact hks) U1 L5
          go_meet
          exact ⟨j5, z5, _, T1, ⟨#[]⟩, 0, _, _, _, [], kd ⟨RP6.out.m, fun x hx => by
            rcases List.mem_cons.1 hx with rfl | hx
            · exact RP6.out.v _ (List.mem_cons_self ..)
            · rw [List.mem_singleton] at hx; subst hx; exact VX.none RP6.out.m.bw⟩, kd (sw_tel RT.out SL)⟩
        · have q3 : ((strOfNums sc).toList == [116, 101, 108]) = false := HQ3.out.trans (by simpa using fun e => htel e.symm)
          have E := kd (UO.out hsip htel)
          clear US UT UO HQ1 HQ2 HQ3 hsip c0 GOOD htel
          have RR := kd (show Row _ w.heap.size 32 [.string ⟨#[]⟩, .string ⟨#[]⟩, .string ⟨#[]⟩, .int .i64 0, .slice none 0 0, .slice none 0 0] from RP1.out.m.row (i := 2) rfl)
          have GB := kd (fun w9 (hg : World.grownBy _ w9 (some w.heap.size)) => mine_gb RP1.out.m (i := 2) rfl hg)
          go_wp2_with (with_reducible refine wpList_storeG rfl 32 (.tmp 2) (.tmp 36) rfl RR.out [.string ⟨#[]⟩, .string ⟨#[]⟩, .string ⟨#[]⟩, .int .i64 0, .slice none 0 0, .slice none 0 0] rfl rfl (lenU _ _ _ _ _ _ _ _ _ _ _ _) (sizeU _ _ _ _ _ _) (u_one _ _ _ _) ?_)
          intro w9 R9 G9
          have BW9 := kd (GB.out _ G9.out)
          go_wp2_with fail
          exact bodyPost_ret (results_cuv rfl _ _ _ w.heap.size [.string ⟨#[]⟩, .string ⟨#[]⟩, .string ⟨#[]⟩, .int .i64 0, .slice none 0 0, .slice none 0 0] _ rfl R9.out.range Tryz.underlying32 rfl (sizeU _ _ _ _ _ _)) rfl (by exact BAD.out _ _ _ E.out BW9.out (by decide))
  case rest =>
    obtain ⟨i, q, sb, ub1, hb1, po, v1, v2, l1, l2, RPF, RM⟩ := hcut
    clear RP1 HQ1 HQ2 HQ3 US UT UO c0
    have k3 := RPF.out.rd.cell 3
    simp only [rdC, List.getElem?_cons_succ, List.getElem?_cons_zero] at k3
    cases R with
    | error z =>
      obtain ⟨hz1, hz2⟩ := RM.out
      subst hz1
      have e1 : (q.2 != 0) = true := by simpa using hz2
      have HZ := kd hz2
      obtain ⟨A1, c1, hv1⟩ := own_slice (RPF.out.v (v1, l1) (List.mem_cons_self ..)).o
      obtain ⟨A2, c2, hv2⟩ := own_slice (RPF.out.v (v2, l2) (List.mem_cons_of_mem _ (List.mem_cons_self ..))).o
      dsimp only at hv1 hv2
      subst hv1 hv2
      generalize hVS : [(Value.slice A1 l1.length c1, l1), (Value.slice A2 l2.length c2, l2)] = VS at *
      generalize hUS : [Value.string sb, .string ub1, .string hb1, .int .i64 po, .slice A1 l1.length c1, .slice A2 l2.length c2] = US at *
      haveI : Nonempty (RPW w r ub w.heap.size s i q US VS) := ⟨⟨_, RPF.out⟩⟩
      have k2' : ∀ x : RPW w r ub w.heap.size s i q US VS, x.w.cell? ⟨r, 2, none⟩ = some (.int .i64 (q.1 : Nat)) := fun x => x.h.rd.cell 2
      have k3' : ∀ x : RPW w r ub w.heap.size s i q US VS, x.w.cell? ⟨r, 3, none⟩ = some (.int .u8 q.2) := fun x => x.h.rd.cell 3
      have RRx := kd (fun x : RPW w r ub w.heap.size s i q US VS => show Row x.w w.heap.size 32 [.string ⟨#[]⟩, .string ⟨#[]⟩, .string ⟨#[]⟩, .int .i64 0, .slice none 0 0, .slice none 0 0] from x.h.m.row (i := 2) rfl)
      clear hz2 hVS hUS
      go_upto_region 22 with (fail)
      clear k3
      refine region_cls (C := fun w' => ∃ x : RPW w r ub w.heap.size s i q US VS, w' = x.w) (by kernel_rfl) (by kernel_rfl) ⟨⟨_, RPF.out.call ((Below.refl _ _).drew)⟩, rfl⟩ ?_
      repeat go_big_quiet_step (fail)
      go_big_quiet_want
      refine quiet_sameC 32 (.tmp 2) (.tmp 68) rfl RRx.out rfl rfl (sizeU _ _ _ _ _ _) (u_one _ _ _ _) ?_
      simp only [Act.put, List.setIfInBounds_toArray, List.set_cons_zero, List.set_cons_succ]
      go_big_quiet_on
      repeat go_big_quiet_step (fail)
      refine wpQuiet_nil ?_
      rintro _ ⟨y, rfl⟩
      have RR9 := kd (RRx.out y)
      have BW9 := kd y.h.m.bw
      clear RPF k2' k3' RRx
      go_wp2_with fail
      exact bodyPost_ret (results_cuv rfl _ _ _ w.heap.size [.string ⟨#[]⟩, .string ⟨#[]⟩, .string ⟨#[]⟩, .int .i64 0, .slice none 0 0, .slice none 0 0] _ rfl RR9.out.range Tryz.underlying32 rfl (sizeU _ _ _ _ _ _)) rfl (by exact BAD.out _ _ _ rfl BW9.out HZ.out)
    | ok u =>
      obtain ⟨hz1, rfl, rfl, rfl, rfl, rfl, rfl⟩ := RM.out
      subst hz1
      obtain ⟨usc, uus, uho, upo, ups, uhs⟩ := u
      have UR := kd RPF.out.ur
      have V1 := kd (RPF.out.v (v1, ups) (List.mem_cons_self ..))
      have V2 := kd (RPF.out.v (v2, uhs) (List.mem_cons_of_mem _ (List.mem_cons_self ..)))
      obtain ⟨A1, c1, hv1⟩ := own_slice V1.out.o
      obtain ⟨A2, c2, hv2⟩ := own_slice V2.out.o
      dsimp only at V1 V2 hv1 hv2
      subst hv1 hv2
      have RR := kd (show Row wc w.heap.size 32 [.string ⟨#[]⟩, .string ⟨#[]⟩, .string ⟨#[]⟩, .int .i64 0, .slice none 0 0, .slice none 0 0] from RPF.out.m.row (i := 2) rfl)
      have GB := kd (fun w9 (hg : wc.grownBy w9 (some w.heap.size)) => mine_gb RPF.out.m (i := 2) rfl hg)
      clear RM
      go_wp2_with (first
        | (with_reducible refine wpList_loadR rfl 32 (.tmp 7) rfl UR.out rfl Tryz.underlying32 rfl (sizeU _ _ _ _ _ _) ?_)
        | (with_reducible refine wpList_storeG rfl 32 (.tmp 2) (.tmp 77) rfl RR.out [.string (strOfNums usc), .string (strOfNums uus), .string (strOfNums uho), .int .i64 upo, .slice A1 _ c1, .slice A2 _ c2] rfl rfl (lenU _ _ _ _ _ _ _ _ _ _ _ _) (sizeU _ _ _ _ _ _) (u_one _ _ _ _) ?_; intro w9 R9 G9))
      have BW9 := kd (GB.out _ G9.out)
      have W1 := kd (V1.out.put RR.out (by decide) BW9.out G9.out)
      have W2 := kd (V2.out.put RR.out (by decide) BW9.out G9.out)
      exact bodyPost_ret (results_cuv rfl _ _ _ w.heap.size [.string (strOfNums usc), .string (strOfNums uus), .string (strOfNums uho), .int .i64 upo, .slice A1 _ c1, .slice A2 _ c2] _ rfl R9.out.range Tryz.underlying32 rfl (sizeU _ _ _ _ _ _)) rfl (by exact GOOD.out _ _ _ _ _ _ _ _ _ rfl W1.out W2.out)
end Go.Proofs.YthfonniieaiocaaGreatDoor
