/- Contracts: address's quotedName, plainName. The library's contracts at this program. -/
import Derived.Test.YthfonniieaiocaaGreatDoorVf
import Derived.Shelf.Strings.Builder1
import Derived.Shelf.Strings.Builder2
import Derived.Shelf.Strings.OnBuilder
import Derived.Shelf.Strings.Trim
import Derived.Shelf.Small.Utf8
import Derived.Shelf.Small.Strs
import Derived.Shelf.Small.Wraps
import Derived.Shelf.Strconv.Itoa0
import Derived.Shelf.Strconv.Itoa1
import Derived.Shelf.LaysM
import Derived.Shelf.Strconv.Itoa2
import Derived.Shelf.Strconv.Itoa3
import Derived.Shelf.Strings.Search1
import Derived.Shelf.Strings.Search2
import Derived.Shelf.Strings.Search3
import Derived.Shelf.Strings.Cut
import Derived.Shelf.Strings.Count
import Derived.Shelf.Strings.Shaped
import Derived.Shelf.Strings.Prefix
import Derived.Shelf.Strings.Split
import Derived.Shelf.Strings.SplitShaped
import Derived.Shelf.Strings.Runes
import Derived.Shelf.Strings.IndexAny
import Derived.Shelf.Strings.AsciiSet
import Derived.Shelf.Strings.IndexAnyAll
import Derived.Shelf.Unicode.DecodeSlow
import Derived.Test.YthfonniieaiocaaGreatDoorProg
set_option linter.unusedVariables false
set_option linter.unusedSimpArgs false
namespace Go.Proofs.YthfonniieaiocaaGreatDoor
open Go.RowKit

def LA (cb ab : Nat) (s : ByteArray) (a : Nat) (us : List Value) : List Blk := [(cb, 84, [.string s, .int .i64 a]), (ab, 38, us)]
/-- An address while it is read. -/
def aC (d : List Int) (u1 u2 u3 : ByteArray) (po : Int) (v1 v2 v3 : Value) : List Value := [.string (strOfNums d), .string u1, .string u2, .string u3, .int .i64 po, v1, v2, v3]
abbrev aC0 (d : List Int) : List Value := aC d ⟨#[]⟩ ⟨#[]⟩ ⟨#[]⟩ 0 (.slice none 0 0) (.slice none 0 0) (.slice none 0 0)
section
variable {w wr w' : World} {cb ab a : Nat} {s : ByteArray} {us : List Value}
theorem la_c (h : Mine w wr (LA cb ab s a us) []) : Row wr cb 84 [.string s, .int .i64 a] := h.row (i := 0) rfl
theorem la_a (h : Mine w wr (LA cb ab s a us) []) : Row wr ab 38 us := h.row (i := 1) rfl
theorem la_cset (h : Mine w wr (LA cb ab s a us) []) (a' : Nat) {z : Int} (hz : z = a') : Mine w (wr.setCell ⟨cb, 1, none⟩ (.int .i64 z)) (LA cb ab s a' us) [] := by
  subst hz; exact h.setCell (i := 0) (off := 1) _ rfl rfl
theorem la_aset (h : Mine w wr (LA cb ab s a us) []) (i : Nat) (u : Value) : Mine w (wr.setCell ⟨ab, i, none⟩ u) (LA cb ab s a (us.set i u)) [] := h.setCell (i := 1) (off := i) u rfl rfl
/-- Behind a call that writes the cursor alone. -/
theorem la_cur {a' : Nat} (h : Mine w wr (LA cb ab s a us) []) (hg : CG wr cb s a' w') : Mine w w' (LA cb ab s a' us) [] := by
  have hne : cb ≠ ab := rowT_ne (la_c h) (la_a h) (by decide)
  refine ⟨h.bw.grown hg.g h.bw.size (fun k hk => by cases hk; exact h.ge (i := 0) rfl), fun r hr => ?_, by simpa [LA] using hne, fun F hF => by cases hF⟩
  simp only [LA, List.mem_cons, List.not_mem_nil, or_false] at hr
  rcases hr with rfl | rfl
  · exact ⟨hg.r, h.ge (i := 0) rfl⟩
  · exact ⟨(la_a h).heap (hg.g.block ab (la_a h).lt (fun e => hne (Option.some.inj e).symm)), h.ge (i := 1) rfl⟩
/-- Behind an append to a slice of one's own. -/
theorem la_grown {v : Value} (h : Mine w wr (LA cb ab s a us) []) (hg : wr.grownBy w' v.ownBlock) (hb : ∀ k, v.ownBlock = some k → w.heap.size ≤ k) (h1 : ∀ k, v.ownBlock = some k → k ≠ cb) (h2 : ∀ k, v.ownBlock = some k → k ≠ ab) : Mine w w' (LA cb ab s a us) [] := by
  have hne : cb ≠ ab := rowT_ne (la_c h) (la_a h) (by decide)
  refine ⟨h.bw.grown hg h.bw.size hb, fun r hr => ?_, by simpa [LA] using hne, fun F hF => by cases hF⟩
  simp only [LA, List.mem_cons, List.not_mem_nil, or_false] at hr
  rcases hr with rfl | rfl
  · exact ⟨(la_c h).heap (hg.block cb (la_c h).lt (fun e => h1 cb e.symm rfl)), h.ge (i := 0) rfl⟩
  · exact ⟨(la_a h).heap (hg.block ab (la_a h).lt (fun e => h2 ab e.symm rfl)), h.ge (i := 1) rfl⟩
theorem rowT_vx {b n : Nat} {T T' : TypeId} {sz : Nat} {vs cs : List Value} {v : Value} (h : Row wr b T vs) (H : VX T' sz w v n cs wr) (ht : T ≠ T') : ∀ g, v.ownBlock = some g → g ≠ b := fun g hg e => by
  obtain ⟨cur, h1⟩ := H.row hg
  unfold Row at h
  rw [e, h] at h1
  injection h1 with h1
  injection h1 with _ h1
  exact ht h1
end
def QnP (w : World) (cb ab : Nat) (s : ByteArray) (R : Except (Nat × Int) (List Int × Nat)) (e : Ending) (w' : World) : Prop := match R with
  | .error q => e = .returned (.tuple #[.int .i64 (q.1 : Nat), .int .u8 q.2]) ∧ Below w.heap.size w w' ∧ q.2 ≠ 0
  | .ok (d, b) => e = .returned (.tuple #[.int .i64 0, .int .u8 0]) ∧ Mine w w' (LA cb ab s b (aC0 d)) []
theorem QnP.bad {w w' : World} {cb ab z : Nat} {k : Int} {s : ByteArray} {R : Except (Nat × Int) (List Int × Nat)} (h : R = .error (z, k)) (hb : Below w.heap.size w w') (hk : k ≠ 0) : QnP w cb ab s R (.returned (.tuple #[.int .i64 (z : Nat), .int .u8 k])) w' := by
  subst h; exact ⟨rfl, hb, hk⟩
theorem QnP.good {w w' : World} {cb ab b : Nat} {d : List Int} {s : ByteArray} {R : Except (Nat × Int) (List Int × Nat)} (h : R = .ok (d, b)) (hb : Mine w w' (LA cb ab s b (aC0 d)) []) : QnP w cb ab s R (.returned (.tuple #[.int .i64 0, .int .u8 0])) w' := by
  subst h; exact ⟨rfl, hb⟩
/-- A display name that is a quoted text. -/
def qnL (xs : List Int) (a : Nat) : Except (Nat × Int) (List Int × Nat) :=
  if (unq xs (a : Nat)).2.2 ≠ 0 then .error ((unq xs (a : Nat)).2.1, (unq xs (a : Nat)).2.2)
  else if atL xs (skipTo isBlank xs (unq xs (a : Nat)).2.1) 60 = false then .error (skipTo isBlank xs (unq xs (a : Nat)).2.1, 5)
  else .ok ((unq xs (a : Nat)).1, skipTo isBlank xs (unq xs (a : Nat)).2.1)
set_option maxRecDepth 100000 in
set_option maxHeartbeats 4000000 in
theorem quoted_any (w wr : World) (cb ab a : Nat) (s : ByteArray) (H : Mine w wr (LA cb ab s a (aC0 [])) []) (ha : a ≤ s.size) (hs : s.size ≤ 4000000) :
    Calls Tryz.prog 81 #[.pointer (some ⟨cb, 0, none⟩), .pointer (some ⟨ab, 0, none⟩)] wr (QnP w cb ab s (qnL (byteL s) a)) := by
  have HM := Lib.hid H
  have HL := byteL_len s
  have BAD := Lib.hid (fun w' z k (h : qnL (byteL s) a = .error (z, k)) hb hk => QnP.bad (w := w) (w' := w') (cb := cb) (ab := ab) (s := s) h hb hk)
  have GOOD := Lib.hid (fun w' d b (h : qnL (byteL s) a = .ok (d, b)) hb => QnP.good (w := w) (w' := w') (cb := cb) (ab := ab) (s := s) h hb)
  obtain ⟨U, hU⟩ : ∃ U, unq (byteL s) (a : Nat) = U := ⟨_, rfl⟩
  have RE := Lib.hid (show qnL (byteL s) a = if U.2.2 ≠ 0 then .error (U.2.1, U.2.2) else if atL (byteL s) (skipTo isBlank (byteL s) U.2.1) 60 = false then .error (skipTo isBlank (byteL s) U.2.1, 5) else .ok (U.1, skipTo isBlank (byteL s) U.2.1) by subst hU; rfl)
  have UNQ := Lib.hid (fun w => unquote_b s a U w hU ha hs)
  obtain ⟨up, _⟩ := unq_pos (xs := byteL s) (i := a) (by rw [HL]; exact ha)
  rw [hU, HL] at up
  generalize QnP w cb ab s (qnL (byteL s) a) = PP at *
  generalize qnL (byteL s) a = R at *
  obtain ⟨u1, u2, u3⟩ := U
  dsimp only at RE up
  have BLK := Lib.hid (fun w h1 => curblanks_any w cb u2 s h1 up hs)
  obtain ⟨b, hb⟩ : ∃ b, skipTo isBlank (byteL s) u2 = b := ⟨_, rfl⟩
  rw [hb] at RE BLK
  have SE := Lib.hid (fun w h1 => cursees_any w cb b 60 s h1)
  rw [show seesB (byteL s) b 60 = atL (byteL s) b 60 from rfl] at SE
  generalize atL (byteL s) b 60 = s60 at *
  clear H hU hb HL
  go_enter Tryz.func81, Tryz.ntmps81
  go_upto_region 1 with (fail)
  have q0 := fun x : BW wr => (la_c HM.out).later x 0
  have q1 := fun x : BW wr => (la_c HM.out).later x 1
  simp only [List.getElem?_cons_succ, List.getElem?_cons_zero] at q0 q1
  refine region_bw (by kernel_rfl) (by kernel_rfl) ?_
  iterate 9 go_big_quiet_step (fail)
  go_big_quiet_step (exact calls_bw (UNQ.out _))
  iterate 7 go_big_quiet_step (fail)
  refine wpQuiet_nil ?_
  rintro _ ⟨x, rfl⟩
  have M := Lib.hid (HM.out.call x.h)
  clear q0 q1 HM UNQ
  generalize x.w = w2 at *
  by_cases h3 : u3 = 0
  · subst h3
    have RE2 := Lib.hid (RE.out.trans (if_neg (fun h => h rfl)))
    clear RE
    have k0 := (la_a M.out).cell 0
    simp only [aC, List.getElem?_cons_succ, List.getElem?_cons_zero] at k0
    have f0 := (la_a M.out).frozen 0
    have M3 := Lib.hid (show Mine w (w2.setCell ⟨ab, 0, none⟩ (.string (strOfNums u1))) (LA cb ab s a (aC0 u1)) [] from la_aset M.out 0 (.string (strOfNums u1)))
    have k1 := (la_c M3.out).cell 1
    simp only [List.getElem?_cons_succ, List.getElem?_cons_zero] at k1
    have f1 := (la_c M3.out).frozen 1
    have M4 := Lib.hid (la_cset M3.out u2 (z := (u2 : Int)) rfl)
    clear M
    go_upto_region 5 with (fail)
    clear k0 f0 k1 f1 M3
    generalize (w2.setCell ⟨ab, 0, none⟩ (.string (strOfNums u1))).setCell ⟨cb, 1, none⟩ (.int .i64 (u2 : Int)) = w4 at *
    go_wp2_with fail
    refine (BLK.out w4 (la_c M4.out)).mono ?_
    rintro _ w5 ⟨rfl, hc⟩
    have M5 := Lib.hid (la_cur M4.out hc)
    clear hc M4 BLK
    go_wp2_with fail
    refine (SE.out w5 (la_c M5.out)).mono ?_
    rintro _ _ ⟨rfl, nq, rfl⟩
    have M6 := Lib.hid (M5.out.call (below_drewN _ nq))
    clear M5 SE
    generalize w5.drewN nq = w6 at *
    cases s60 with
    | false =>
      have E := Lib.hid (show R = .error (b, 5) from RE2.out)
      clear RE2
      have k1 := (la_c M6.out).cell 1
      simp only [List.getElem?_cons_succ, List.getElem?_cons_zero] at k1
      go_wp2_with fail
      first | exact BAD.out _ _ _ E.out M6.out.bw (by decide) | (go_ret2; exact BAD.out _ _ _ E.out M6.out.bw (by decide))
    | true =>
      have E := Lib.hid (show R = .ok (u1, b) from RE2.out)
      clear RE2
      go_wp2_with fail
      first | exact GOOD.out _ _ _ E.out M6.out | (go_ret2; exact GOOD.out _ _ _ E.out M6.out)
  · have hb3 : (u3 != 0) = true := by simpa using h3
    have E := Lib.hid (RE.out.trans (if_pos h3))
    have H3 := Lib.hid h3
    clear RE h3
    go_wp2_with fail
    first | exact BAD.out _ _ _ E.out M.out.bw H3.out | (go_ret2; exact BAD.out _ _ _ E.out M.out.bw H3.out)
/-- The words so far. -/
structure WdR (w : World) (cb ab : Nat) (s : ByteArray) (a : Nat) (l : List (List Int)) (v : Value) (wr : World) : Prop where
  m : Mine w wr (LA cb ab s a (aC0 [])) []
  o : SXL w v l wr
section
variable {w wr w' : World} {cb ab a a' : Nat} {s : ByteArray} {l : List (List Int)} {v : Value}
theorem WdR.call (h : WdR w cb ab s a l v wr) (hb : Below wr.heap.size wr w') : WdR w cb ab s a l v w' := ⟨h.m.call hb, h.o.step hb⟩
theorem WdR.cur (h : WdR w cb ab s a l v wr) (hg : CG wr cb s a' w') : WdR w cb ab s a' l v w' :=
  ⟨la_cur h.m hg, h.o.other (la_cur h.m hg).bw fun g hg2 => hg.g.block g (h.o.own_lt hg2) (fun e => rowT_vx (la_c h.m) h.o (by decide) g hg2 (Option.some.inj e))⟩
end
theorem wpList_pushW {w wr : World} {cb ab a0 : Nat} {s : ByteArray} {l : List (List Int)} {v : Value} {ops : Array Oper} {rest : List Oper} {o : Oper} {a : Act} {Q : Exit → Act → World → Prop} (hgd : o.guard = none) (x y : Operand)
    (ho : o.op = .call { callee := .builtin .append, args := #[x, y], argTypes := #[75, 75] }) (hs : a.eval x = v) (H : WdR w cb ab s a0 l v wr) (p : List Int) (hy : a.eval y = .slice (some ⟨wr.heap.size, 0, none⟩) 1 1) (hb : l.length + 1 ≤ 16777216)
    (h : ∀ v' w', Hid (WdR w cb ab s a0 (l ++ [p]) v' w') → wpList Tryz.prog ops Q rest (a.put o.dst v') w') : wpList Tryz.prog ops Q (o :: rest) a (wr.alloc (.cells #[.string (strOfNums p)] 9)) := by
  obtain ⟨i, hi, hz, hsz, hbt⟩ := infoS
  have ha : Below wr.heap.size wr (wr.alloc (.cells #[.string (strOfNums p)] 9)) := (Below.refl _ _).alloc (Nat.le_refl _) _
  have hbase : w.heap.size ≤ (wr.alloc (.cells #[.string (strOfNums p)] 9)).heap.size := by have := H.o.bw.size; simp; omega
  refine wpList_append_own_at _ hgd x y 75 ho w.heap.size 9 i _ 1 16 Tryz.underlying75 hi hz hsz hbt rfl (by omega) v l.length (strs l) hs (H.o.o.alloc _) ⟨wr.heap.size, 0, none⟩ 1 1 [.string (strOfNums p)] hy rfl (fun j u hu => ?_) (fun u hu => by simp at hu; subst hu; rfl) (by unfold maxLen; omega) ?_ hbase ?_
  · rw [Addr.add_mid, Nat.zero_add]
    exact ((Row.new wr 9 [.string (strOfNums p)]).cell j).trans hu
  · omega
  · intro v' w' h2 h3 _ _
    have H1 := H.call ha
    refine h v' w' (Lib.hid ⟨la_grown H1.m h3 (own_block H1.o.o) (rowT_vx (la_c H1.m) H1.o (by decide)) (rowT_vx (la_a H1.m) H1.o (by decide)), ?_⟩)
    unfold SXL
    rw [strs_snoc, List.length_append]
    exact ⟨h2, H1.o.bw.grown h3 hbase (own_block H1.o.o)⟩
theorem joinw_any {w w0 : World} {v : Value} {l : List (List Int)} (H : SXL w0 v l w) (hb : ∀ p ∈ l, By p) (h4 : (joinL [32] l).length ≤ 1000000000) (hl : l.length ≤ 1000000) :
    Calls Tryz.prog 126 #[v, .string ⟨#[32]⟩] w fun e w' => e = .returned (.string (strOfNums (joinL [32] l))) ∧ Below w.heap.size w w' := by
  have hm : (l.map strOfNums).map byteL = l := by
    rw [List.map_map]
    exact (List.map_congr_left fun p hp => byteL_str (hb p hp)).trans (List.map_id _)
  have hs : strs l = (l.map strOfNums).map Value.string := by unfold strs; rw [List.map_map]; rfl
  have h := join_any (w := w) (w0 := w0) (v := v) (zs := l.map strOfNums) ⟨by rw [List.length_map, ← hs]; exact H.o, H.bw⟩ ⟨#[32]⟩ (by rw [List.length_map]; exact hl) (by rw [hm, show byteL ⟨#[32]⟩ = [32] from rfl]; omega)
  rw [hm, show byteL ⟨#[32]⟩ = [32] from rfl] at h
  exact h
/-- A display name of words. -/
def wdM (T : Except Nat (List (List Int) × Nat)) : Except (Nat × Int) (List Int × Nat) := match T with
  | .error e => .error (e, 5)
  | .ok (l, b) => .ok (joinL [32] l, b)
def wdL (xs : List Int) (a : Nat) : Except (Nat × Int) (List Int × Nat) := wdM (wordsN xs (xs.length + 1) a [])
theorem wdL_eq {xs : List Int} {a : Nat} {T : Except Nat (List (List Int) × Nat)} (h : wordsN xs (xs.length + 1) a [] = T) : wdL xs a = wdM T := by subst h; rfl
def PnR (w : World) (cb ab : Nat) (s : ByteArray) (T : Except Nat (List (List Int) × Nat)) (g : Nat) (v : Value) (wx : World) : Prop := ∃ (a f n c : Nat) (A : Option Addr) (l : List (List Int)), a ≤ s.size ∧ a + g = s.size + 1 ∧ s.size + 1 ≤ f + a ∧ n = l.length ∧ l.length ≤ a ∧ v = .slice A n c ∧ Hid (T = wordsN (byteL s) f a l) ∧ Hid (WdR w cb ab s a l v wx)
set_option maxRecDepth 100000 in
set_option maxHeartbeats 1000000 in
theorem plainname_any (w wr : World) (cb ab a : Nat) (s : ByteArray) (H : Mine w wr (LA cb ab s a (aC0 [])) []) (ha : a ≤ s.size) (hs : s.size ≤ 1024) :
    Calls Tryz.prog 83 #[.pointer (some ⟨cb, 0, none⟩), .pointer (some ⟨ab, 0, none⟩)] wr (QnP w cb ab s (wdL (byteL s) a)) := by
  have HM := Lib.hid H
  have HL := byteL_len s
  have HBY := Lib.hid (byteL_by s)
  have BAD := Lib.hid (fun w' z k (h : wdL (byteL s) a = .error (z, k)) hb hk => QnP.bad (w := w) (w' := w') (cb := cb) (ab := ab) (s := s) h hb hk)
  have GOOD := Lib.hid (fun w' d b (h : wdL (byteL s) a = .ok (d, b)) hb => QnP.good (w := w) (w' := w') (cb := cb) (ab := ab) (s := s) h hb)
  obtain ⟨T, hT⟩ : ∃ T, wordsN (byteL s) (s.size + 1) a [] = T := ⟨_, rfl⟩
  have RE := Lib.hid (wdL_eq (xs := byteL s) (a := a) (T := T) (by rw [HL]; exact hT))
  have WO := Lib.hid (words_ok HBY.out (s.size + 1) a [] (by rw [HL]; exact ha) (fun p hp => by cases hp) (Nat.zero_le _) (by omega))
  rw [hT] at WO
  have TOK := Lib.hid (fun w a h1 h2 => curtoken_any w cb a s h1 h2 (by omega))
  have BLK := Lib.hid (fun w a h1 h2 => curblanks_any w cb a s h1 h2 (by omega))
  have SE := Lib.hid (fun w a h1 => cursees_any w cb a 60 s h1)
  generalize QnP w cb ab s (wdL (byteL s) a) = PP at *
  generalize wdL (byteL s) a = R at *
  have W0 := Lib.hid (show WdR w cb ab s a [] (.slice none 0 0) wr from ⟨H, World.ownsRow_nil _ _ _ _, H.bw⟩)
  have TE0 := Lib.hid hT.symm
  clear H hT
  go_enter Tryz.func83, Tryz.ntmps83
  go_wp2_with fail
  go_loopg [6] (s.size + 1 - a) (fun g v wx => PnR w cb ab s T g v wx)
  case atStart => exact ⟨a, s.size + 1, 0, 0, none, [], ha, by omega, by omega, rfl, Nat.zero_le _, rfl, TE0, W0⟩
  case round =>
    clear W0 TE0 HM ha
    obtain ⟨i, f, n, c, A, l, hi, hg, hf, hn, hl, rfl, TE, WD⟩ := hrel
    subst hn
    obtain ⟨f, rfl⟩ : ∃ f', f = f' + 1 := ⟨f - 1, by omega⟩
    go_wp2_with fail
    refine (SE.out wr i (la_c WD.out.m)).mono ?_
    rintro _ _ ⟨rfl, nq, rfl⟩
    have W1 := Lib.hid (WD.out.call (below_drewN _ nq))
    clear WD
    generalize wr.drewN nq = w1 at *
    cases h60 : seesB (byteL s) i 60 with
    | true =>
      have TE2 := Lib.hid (TE.out.trans (wordsN_at h60))
      have E := Lib.hid (show R = .ok (joinL [32] l, i) by rw [RE.out, TE2.out]; rfl)
      have WO2 := WO.out
      rw [TE2.out] at WO2
      obtain ⟨o1, o2, _, _⟩ := WO2
      dsimp only at o1 o2
      have JL : (joinL [32] l).length ≤ 1000000000 := by
        have := join32_len (k := 1024) fun p hp => Nat.le_trans (o1 p hp).2 (by omega)
        have : (1024 + 1) * l.length ≤ 1025 * 1024 := Nat.mul_le_mul (Nat.le_refl _) (by omega)
        omega
      have JO := Lib.hid (joinw_any W1.out.o (fun p hp => (o1 p hp).1) JL (by omega))
      clear TE TE2 RE WO o1 o2 JL h60
      go_wp2_with fail
      refine JO.out.mono ?_
      rintro _ w2 ⟨rfl, hb2⟩
      have W2 := Lib.hid (W1.out.m.call hb2)
      clear W1 JO hb2
      have k0 := (la_a W2.out).cell 0
      simp only [aC, List.getElem?_cons_succ, List.getElem?_cons_zero] at k0
      have f0 := (la_a W2.out).frozen 0
      have M3 := Lib.hid (show Mine w (w2.setCell ⟨ab, 0, none⟩ (.string (strOfNums (joinL [32] l)))) (LA cb ab s i (aC0 (joinL [32] l))) [] from la_aset W2.out 0 (.string (strOfNums (joinL [32] l))))
      go_wp2_with fail
      first | exact GOOD.out _ _ _ E.out M3.out | (go_ret2; exact GOOD.out _ _ _ E.out M3.out)
    | false =>
      go_wp2_with fail
      refine (TOK.out w1 i (la_c W1.out.m) hi).mono ?_
      rintro _ w2 ⟨rfl, hc⟩
      have W2 := Lib.hid (W1.out.cur hc)
      clear hc W1
      obtain ⟨e, he⟩ : ∃ e, skipTo isTok (byteL s) i = e := ⟨_, rfl⟩
      rw [he] at W2
      have ei : i ≤ e := by rw [← he]; exact skip_ge _ _ _
      have es : e ≤ s.size := by rw [← he, ← HL]; exact skip_le (by rw [HL]; exact hi)
      by_cases h0 : e = i
      · have TE2 := Lib.hid (TE.out.trans (wordsN_bad h60 (he.trans h0)))
        have E := Lib.hid (show R = .error (i, 5) by rw [RE.out, TE2.out]; rfl)
        have EB : ((strOfNums (subL (byteL s) i e)).toList == ([] : List UInt8)) = true := by rw [empty_beq, subL_empty (by rw [HL]; exact es) ei, decide_eq_true h0]
        rw [he]
        have HI := Lib.hid h0
        generalize subL (byteL s) i e = tk at *
        clear TE TE2 RE WO h60 he h0
        have k1 := (la_c W2.out.m).cell 1
        simp only [List.getElem?_cons_succ, List.getElem?_cons_zero] at k1
        go_wp2_with fail
        first | exact BAD.out _ _ _ (by rw [HI.out]; exact E.out) W2.out.m.bw (by decide) | (go_ret2; exact BAD.out _ _ _ (by rw [HI.out]; exact E.out) W2.out.m.bw (by decide))
      · have TE2 := Lib.hid (TE.out.trans (wordsN_go h60 he h0))
        have EB : ((strOfNums (subL (byteL s) i e)).toList == ([] : List UInt8)) = false := by rw [empty_beq, subL_empty (by rw [HL]; exact es) ei, decide_eq_false h0]
        rw [he]
        obtain ⟨b, hb⟩ : ∃ b, skipTo isBlank (byteL s) e = b := ⟨_, rfl⟩
        have eb : e ≤ b := by rw [← hb]; exact skip_ge _ _ _
        have bs : b ≤ s.size := by rw [← hb, ← HL]; exact skip_le (by rw [HL]; exact es)
        rw [hb] at TE2
        have BL2 := Lib.hid (fun w h1 => BLK.out w e h1 es)
        rw [hb] at BL2
        generalize subL (byteL s) i e = tk at *
        clear TE RE h60 he hb
        go_wp2_with (with_reducible refine wpList_pushW rfl (.tmp 19) (.tmp 21) rfl rfl W2.out tk rfl (by omega) ?_)
        intro v9 w9 W9
        clear W2
        obtain ⟨A9, c9, hv9⟩ := sxl_form W9.out.o
        subst hv9
        go_wp2_with fail
        refine (BL2.out w9 (la_c W9.out.m)).mono ?_
        rintro _ w10 ⟨rfl, hc⟩
        have W10 := Lib.hid (W9.out.cur hc)
        clear hc W9
        go_wp2_with fail
        go_roundg (s.size + 1 - b)
        case measure => omega
        case rel =>
          rw [show (l ++ [tk]).length = l.length + 1 by simp] at W10
          exact ⟨b, f, l.length + 1, c9, A9, l ++ [tk], bs, by omega, by omega, by simp, by rw [List.length_append, List.length_singleton]; omega, rfl, TE2, W10⟩
end Go.Proofs.YthfonniieaiocaaGreatDoor
namespace Go.Proofs
open Go.Shelf
def Tryz.lays103_ren : Go.Shelf.Ren := ⟨fun | 103 => 153 | 210 => 182 | 206 => 193 | n => n, fun | 9 => 9 | 4 => 4 | 24 => 26 | 3 => 3 | n => n, fun | n => n⟩
theorem Tryz.lays103 : Go.Proofs.Lays.n103 Tryz.prog Tryz.lays103_ren := {
  mixed := by kernel_rfl
  f103 := Tryz.func153.trans (congrArg some (by kernel_rfl))
  f206 := Tryz.func193.trans (congrArg some (by kernel_rfl))
  f210 := Tryz.func182.trans (congrArg some (by kernel_rfl))
  t3 := Tryz.underlying3
  a3 := Tryz.isAgg3
  z3 := Tryz.sizeOf3
  v3 := Tryz.zeroValue3
  t4 := Tryz.underlying4
  a4 := Tryz.isAgg4
  z4 := Tryz.sizeOf4
  v4 := Tryz.zeroValue4
  t9 := Tryz.underlying9
  a9 := Tryz.isAgg9
  z9 := Tryz.sizeOf9
  v9 := Tryz.zeroValue9
  t24 := Tryz.underlying26
  a24 := Tryz.isAgg26
  z24 := Tryz.sizeOf26
  v24 := Tryz.zeroValue26 }
open Go.RowKit in
/-- strings.CutPrefix: "CutPrefix returns s without the provided leading prefix string and reports whether it found the prefix. If s doesn't start with prefix, CutPrefix returns s, false. If prefix is the empty string, CutPrefix returns s, true.": IT RETURNS '(Lib.trimPrefix s p, Lib.hasPrefix s p)'; the world is as it was. (LAID: no walk: one application.) -/
theorem Tryz.strings_CutPrefix (s p : ByteArray) (w : World) :
    Calls Tryz.prog 153 #[.string s, .string p] w fun e w' => e = .returned (.tuple #[.string ⟨(Lib.trimPrefix s.data.toList p.data.toList).toArray⟩, .bool (Lib.hasPrefix s.data.toList p.data.toList)]) ∧ w' = w := Any.strings_CutPrefix Tryz.lays103 s p w
def Tryz.lays101_ren : Go.Shelf.Ren := ⟨fun | 101 => 134 | 208 => 167 | 206 => 193 | n => n, fun | 9 => 9 | 4 => 4 | 3 => 3 | n => n, fun | n => n⟩
theorem Tryz.lays101 : Go.Proofs.Lays.n101 Tryz.prog Tryz.lays101_ren := {
  mixed := by kernel_rfl
  f101 := Tryz.func134.trans (congrArg some (by kernel_rfl))
  f206 := Tryz.func193.trans (congrArg some (by kernel_rfl))
  f208 := Tryz.func167.trans (congrArg some (by kernel_rfl))
  t3 := Tryz.underlying3
  a3 := Tryz.isAgg3
  z3 := Tryz.sizeOf3
  v3 := Tryz.zeroValue3
  t4 := Tryz.underlying4
  a4 := Tryz.isAgg4
  z4 := Tryz.sizeOf4
  v4 := Tryz.zeroValue4
  t9 := Tryz.underlying9
  a9 := Tryz.isAgg9
  z9 := Tryz.sizeOf9
  v9 := Tryz.zeroValue9 }
open Go.RowKit Go.Lib in
/-- strings.TrimPrefix: "TrimPrefix returns s without the provided leading prefix string. If s doesn't start with prefix, s is returned unchanged.": IT RETURNS 'Lib.trimPrefix s prefix'; the world is as it was. (LAID: no walk: one application.) -/
theorem Tryz.strings_TrimPrefix (s p : ByteArray) (w : World) :
    Calls Tryz.prog 134 #[.string s, .string p] w fun e w' => e = .returned (.string ⟨(Lib.trimPrefix s.data.toList p.data.toList).toArray⟩) ∧ w' = w := Any.strings_TrimPrefix Tryz.lays101 s p w
end Go.Proofs
