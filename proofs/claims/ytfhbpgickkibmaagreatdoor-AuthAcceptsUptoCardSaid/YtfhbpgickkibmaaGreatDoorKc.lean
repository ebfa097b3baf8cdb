/- A region that draws its order: operations that are quiet in a class of worlds, in whatever order, and behind them all a tail in the text's order. Contracts: auth's hashed and Secret; the reference's Hash and Secret. Contracts: the count of credentials at any number; auth's Response. Contract: the reference's Response. -/
import Derived.Test.YtfhbpgickkibmaaGreatDoorMc
import Derived.StillTail
import Derived.Deep.Quiet
import Derived.Test.YtfhbpgickkibmaaGreatDoorGh
import Derived.Test.YtfhbpgickkibmaaGreatDoorDj
import Derived.Test.YtfhbpgickkibmaaGreatDoorDl
namespace Go.Proofs.YtfhbpgickkibmaaGreatDoor
open Go.RowKit

section
variable {P : Program} {ops : Array Oper} {md : Region.Mode} {C : World → Prop}
/-- f operations of the head in whatever order, each quiet in the class; then L. -/
def headQ (P : Program) (md : Region.Mode) (ops : Array Oper) (C : World → Prop) (n : Nat) (L : Array Bool → Act → Prop) : Nat → Array Bool → Act → Prop
  | 0, done, a => L done a
  | f + 1, done, a => Region.ready md ops done ≠ [] ∧ ∀ i ∈ Region.ready md ops done, i < n ∧ qOp P ops C i (headQ P md ops C n L f (done.setIfInBounds i true)) a
theorem headQ_run {n g : Nat} {L : Array Bool → Act → Prop} {R : Exit → Act → World → Prop} (hL : ∀ done a w, C w → L done a → wpAny P md ops R g done a w) :
    ∀ (f : Nat) (done : Array Bool) (a : Act) (w : World), C w → headQ P md ops C n L f done a → wpAny P md ops R (f + g) done a w
  | 0, done, a, w, hw, h => by
    rw [Nat.zero_add]
    exact hL _ _ _ hw h
  | f + 1, done, a, w, hw, h => by
    rw [Nat.add_right_comm]
    exact ⟨fun e => absurd e h.1, fun i hi => wpOp_of_qOp hw (fun a' w' hw' h' => headQ_run hL f _ a' w' hw' h') (h.2 i hi).2⟩
/-- Of the head's operations that may come up, one may be taken first. -/
theorem headQ_take {n i : Nat} {oi : Oper} {v : Value} {L : Array Bool → Act → Prop} (hi : ops[i]? = some oi) (hsel : ∀ (j : Nat) (o : Oper) cs b, ops[j]? = some o → o.op ≠ .select cs b)
    (hs : Region.sinkB md ops n = true) (hc : Region.chainB md ops n = true) (hn : n < ops.size) (hin : i < n) (hend : ∀ done a, L done a → ∀ j ∈ Region.ready md ops done, n ≤ j) (f : Nat) :
    ∀ (done : Array Bool) (a : Act), HeadInv md ops n done →
      (∀ j oj, ops[j]? = some oj → j ≠ i → done.getD j true = false → (∀ e ∈ oj.after, Region.binds md e = true → e.on ≠ i) → oi.apart ops oj = true) →
      i ∈ Region.ready md ops done → YieldsIn P ops C oi v a → headQ P md ops C n L f (done.setIfInBounds i true) (a.put oi.dst v) → headQ P md ops C n L (f + 1) done a := by
  induction f with
  | zero =>
    intro done a inv _ hr hy H
    have low : ∀ j ∈ Region.ready md ops done, j < n := fun j hj => Nat.lt_of_not_le fun h => tail_waits hs hc hn inv _ i rfl hin (mem_ready.1 hr).1 j h hj
    refine ⟨List.ne_nil_of_mem hr, fun j hj => ⟨low j hj, ?_⟩⟩
    by_cases e : j = i
    · rw [e]; exact hy.qOp hi H
    · exact absurd (hend _ _ H j (ready_mono hj e)) (Nat.not_le.2 (low j hj))
  | succ f ih =>
    intro done a inv hfree hr hy H
    have low : ∀ j ∈ Region.ready md ops done, j < n := fun j hj => Nat.lt_of_not_le fun h => tail_waits hs hc hn inv _ i rfl hin (mem_ready.1 hr).1 j h hj
    refine ⟨List.ne_nil_of_mem hr, fun j hj => ⟨low j hj, ?_⟩⟩
    by_cases e : j = i
    · rw [e]; exact hy.qOp hi H
    · obtain ⟨hju, oj, hoj, hall⟩ := mem_ready.1 hj
      have hno : ∀ d ∈ oj.after, Region.binds md d = true → d.on ≠ i := fun d hd hb he => by
        have h1 := hall d hd hb
        rw [he, getD_both (mem_ready.1 hr).1] at h1
        cases h1
      refine qOp_mono (fun a' h3 => ih _ a' (inv.set hj (low j hj)) (fun k ok hk hki hun hw => hfree k ok hk hki ?_ hw) (ready_mono hr (Ne.symm e)) h3.1 ?_)
        (qOp_put hoj (hfree j oj hoj e hju hno) (fun cs b => hsel i oi cs b hi) (fun cs b => hsel j oj cs b hoj) hy (H.2 j (ready_mono hj e)).2)
      · by_cases hjk : j = k
        · rw [← hjk]; exact hju
        · rwa [getD_set_ne true hjk] at hun
      · rw [Array.setIfInBounds_comm _ _ e]
        exact h3.2
/-- One walk of the head in the text's order. -/
theorem headQ_walk {n g : Nat} {R : Act → Prop} (hsel : Region.noSelect ops = true) (hs : Region.sinkB md ops n = true) (hc : Region.chainB md ops n = true) (hn : n < ops.size) :
    ∀ (l : List Oper) (k : Nat) (done : Array Bool) (a : Act), (∀ j, j < l.length → l[j]? = ops[k + j]?) → k + l.length = n → HeadInv md ops n done → Region.lexHead md ops g l.length k done = true → wpQuiet P ops C R l a →
      headQ P md ops C n (fun d' a' => Region.seqB md ops g n d' = true ∧ R a') l.length done a
  | [], k, done, a, _, hk, _, hB, h => by
    rw [List.length_nil, Nat.add_zero] at hk
    subst hk
    exact ⟨by simpa [Region.lexHead] using hB, h⟩
  | o :: l, k, done, a, hl, hk, inv, hB, h => by
    have h0 : ops[k]? = some o := by simpa using (hl 0 (by simp)).symm
    simp only [List.length_cons, Region.lexHead, Bool.and_eq_true] at hB
    obtain ⟨⟨hr, hf⟩, hB'⟩ := hB
    rw [List.length_cons] at hk
    have hkn : k < n := by omega
    have hr' : k ∈ Region.ready md ops done := by simpa using hr
    obtain ⟨v, hy, hK⟩ := yieldsIn_of_qOp (K := wpQuiet P ops C R l) h0 (by unfold qOp; simp only [h0]; exact h)
    exact headQ_take h0 (Region.noSelect_spec hsel) hs hc hn hkn (fun d' a' hL => seqB_ready hL.1) l.length done a inv (Region.free_spec h0 hf) hr' hy
      (headQ_walk hsel hs hc hn l (k + 1) _ _ (fun j hj => by have := hl (j + 1) (by simp; omega); simpa [Nat.add_assoc, Nat.add_comm 1 j] using this) (by omega) (inv.set hr' hkn) hB' hK)
theorem region_quiet_tail {id : Nat} {Q : Exit → Act → World → Prop} {a : Act} {w : World} {l : List Oper} (n : Nat) (hm : P.follows .mixedOrders = true) (hB : Region.lexTailB .any l.toArray n = true) (hC : C w.drew)
    (h : wpQuiet P l.toArray C (fun a' => ∀ w', C w' → wpList P l.toArray Q (l.drop n) a' w') (l.take n) a) : (Code.region id l.toArray true).wp P Q a w := by
  simp only [Region.lexTailB, Bool.and_eq_true, decide_eq_true_eq] at hB
  obtain ⟨⟨⟨⟨hsel, hn⟩, hs⟩, hc⟩, hlex⟩ := hB
  have hn' : n < l.length := by simpa using hn
  have ht : (l.take n).length = n := by rw [List.length_take]; omega
  have hd : (l.drop n).length = l.toArray.size - n := by simp
  have inv0 : HeadInv .any l.toArray n (Array.replicate l.toArray.size false) :=
    ⟨by simp, fun j oj _ hl => (by rw [getD_replicate_false] at hl; cases hl), fun t _ hlt => getD_in (by simpa using hlt) (getD_replicate_false _ _)⟩
  have H := headQ_walk (md := .any) (g := l.toArray.size - n) hsel hs hc hn (l.take n) 0 _ a (fun j hj => by
    rw [ht] at hj
    simp [hj]) (by simpa using ht) inv0 (by rw [ht]; exact hlex) h
  refine wp_region_any hm ?_
  have F := headQ_run (R := Q) (g := l.toArray.size - n) (fun d a' w' hw' hL => by
    have := wpAny_of_seq (md := .any) (Q' := Q) (l.drop n) n d a' w' (fun j => by simp [List.getElem?_drop]) (by rw [hd]; exact hL.1) (hL.2 w' hw')
    rwa [hd] at this) _ _ _ _ hC H
  rw [ht, show n + (l.toArray.size - n) = l.toArray.size by omega] at F
  exact F
end
end Go.Proofs.YtfhbpgickkibmaaGreatDoor
namespace Go.Proofs.YtfhbpgickkibmaaGreatDoor
open Go.RowKit

theorem joinL_by {sep : List Int} (hs : By sep) : ∀ {l : List (List Int)}, (∀ p ∈ l, By p) → By (joinL sep l)
  | [], _ => fun x hx => by rw [joinL_nil] at hx; cases hx
  | [p], h => by rw [joinL_one]; exact h p (by simp)
  | p :: q :: r, h => fun x hx => by
    rw [joinL_cons] at hx
    rcases List.mem_append.1 hx with h1 | h1
    · exact h p (by simp) x h1
    · rcases List.mem_append.1 h1 with h2 | h2
      · exact hs x h2
      · exact joinL_by hs (fun t ht => h t (by simp [List.mem_cons.1 ht])) x h2
theorem joinL_sum (sep : List Int) : ∀ l : List (List Int), (joinL sep l).length ≤ (l.map (·.length)).sum + l.length * sep.length
  | [] => by rw [joinL_nil]; simp
  | [p] => by rw [joinL_one]; simp
  | p :: q :: r => by
    have ih := joinL_sum sep (q :: r)
    rw [joinL_cons, List.length_append, List.length_append, List.map_cons, List.sum_cons, List.length_cons (a := p), Nat.succ_mul]
    omega
def hashL (zs : List (List Int)) : List Int := textH (joinL [58] zs)
theorem textH_by (xs : List Int) : By (textH xs) := hexL_by (sumH_by xs)
theorem textH_len (xs : List Int) : (textH xs).length = 64 := by unfold textH; rw [hexL_len, sumH_len]
theorem hashL_by (zs : List (List Int)) : By (hashL zs) := textH_by _
theorem hashL_len (zs : List (List Int)) : (hashL zs).length = 64 := textH_len _
theorem region_bwt {P : Program} {id : Nat} {Q : Exit → Act → World → Prop} {a : Act} {w : World} {l : List Oper} (n : Nat) (hm : P.follows .mixedOrders = true) (hB : Region.lexTailB .any l.toArray n = true)
    (h : wpQuiet P l.toArray (fun w' => ∃ x : BW w, w' = x.w) (fun a' => ∀ w', (∃ x : BW w, w' = x.w) → wpList P l.toArray Q (l.drop n) a' w') (l.take n) a) : (Code.region id l.toArray true).wp P Q a w :=
  region_quiet_tail n hm hB ⟨⟨w.drew, (Below.refl _ _).drew⟩, rfl⟩ h
theorem joinR_any {w : World} {b n : Nat} {zs : List ByteArray} (H : Row w b 9 (zs.map Value.string)) (hn : zs.length = n) (sep : ByteArray) (hl : n ≤ 1000000) (hj : (joinL (byteL sep) (zs.map byteL)).length ≤ 140737488355328) :
    Calls Tryz.prog 85 #[.slice (some ⟨b, 0, none⟩) n n, .string sep] w fun e w' => e = .returned (.string (strOfNums (joinL (byteL sep) (zs.map byteL)))) ∧ Below w.heap.size w w' := by
  subst hn
  refine (Tryz.strings_Join b 0 zs.length zs sep w (fun j x hx => by rw [Nat.zero_add, H.cell, List.getElem?_map, hx]; rfl) H.lt (by omega) (Nat.le_refl _) ?_).mono fun e w' ⟨he, hb⟩ => ⟨by rw [he, mk_str (bl_join2 zs sep)], hb⟩
  have hlen : (bl (Lib.join (zs.map (·.data.toList)) sep.data.toList)).length = (Lib.join (zs.map (·.data.toList)) sep.data.toList).length := by unfold bl; rw [List.length_map]
  rw [← hlen, bl_join2]
  exact hj
theorem zs_by (zs : List ByteArray) : ∀ p ∈ zs.map byteL, By p := fun p hp => by
  obtain ⟨z, _, rfl⟩ := List.mem_map.1 hp
  exact byteL_by z
theorem by58 : By [58] := fun x hx => by rw [List.mem_singleton] at hx; subst hx; decide
set_option maxRecDepth 100000 in
theorem hashed_any (zs : List ByteArray) (b n : Nat) (w : World) (H : Row w b 9 (zs.map Value.string)) (hn : zs.length = n) (hl : n ≤ 100) (hj : ((zs.map byteL).map (·.length)).sum ≤ 15000000) (hK : KC w) :
    Calls Tryz.prog 55 #[.slice (some ⟨b, 0, none⟩) n n] w fun e w' => e = .returned (.string (strOfNums (hashL (zs.map byteL)))) ∧ Below w.heap.size w w' := by
  have hJ := joinL_sum [58] (zs.map byteL)
  rw [List.length_map, hn, show [(58 : Int)].length = 1 from rfl, Nat.mul_one] at hJ
  have JZ := Lib.hid (show (joinL [58] (zs.map byteL)).length ≤ 16000000 by omega)
  have HR := Lib.hid H; have HN := Lib.hid hn; have HK := Lib.hid hK
  have BY := Lib.hid (byteL_str (joinL_by by58 (zs_by zs)))
  have HE := Lib.hid (show hashL (zs.map byteL) = textH (joinL [58] (zs.map byteL)) from rfl)
  clear H hn hK hJ hj
  go_enter Tryz.func55, Tryz.ntmps55
  go_wp2_with fail
  refine (joinR_any HR.out HN.out ⟨#[58]⟩ (by omega) (by have := JZ.out; exact Nat.le_trans this (by decide))).mono ?_
  rintro e w1 ⟨rfl, hb1⟩
  rw [show byteL ⟨#[58]⟩ = [58] from rfl]
  have B1 := Lib.hid hb1
  clear hb1
  have K1 := Lib.hid (HK.out.below B1.out)
  go_wp2_with fail
  refine (htext_any _ _ (by rw [num_size]; exact JZ.out) K1.out).mono ?_
  rintro e w2 ⟨rfl, hb2⟩
  have B2 := Lib.hid (bthen B1.out hb2)
  clear hb2
  go_wp2_with fail
  go_ret
  exact ⟨by rw [HE.out, BY.out]; rfl, B2.out⟩
set_option maxRecDepth 100000 in
theorem secret_any (us rs ps : ByteArray) (w : World) (hz : us.size + rs.size + ps.size ≤ 15000000) (hK : KC w) :
    Calls Tryz.prog 17 #[.string us, .string rs, .string ps] w fun e w' => e = .returned (.string (strOfNums (hashL [byteL us, byteL rs, byteL ps]))) ∧ Below w.heap.size w w' := by
  have HK := Lib.hid hK
  have SM := Lib.hid (show (([us, rs, ps].map byteL).map (·.length)).sum ≤ 15000000 by simp only [List.map_cons, List.map_nil, List.sum_cons, List.sum_nil, byteL_len]; omega)
  have B0 := Lib.hid ((Below.refl w.heap.size w).alloc (Nat.le_refl _) (.cells #[.string us, .string rs, .string ps] 9))
  have R0 := Lib.hid (Row.new w 9 [.string us, .string rs, .string ps])
  clear hK hz
  go_enter Tryz.func17, Tryz.ntmps17
  go_wp2_with fail
  refine (hashed_any [us, rs, ps] _ 3 _ R0.out rfl (by decide) SM.out (HK.out.below B0.out)).mono ?_
  rintro e w1 ⟨rfl, hb1⟩
  have B1 := Lib.hid (bthen B0.out hb1)
  clear hb1
  rw [show [us, rs, ps].map byteL = [byteL us, byteL rs, byteL ps] from rfl]
  go_wp2_with fail
  go_ret
  exact ⟨rfl, B1.out⟩
set_option maxRecDepth 100000 in
theorem refhash_any (s : ByteArray) (w : World) (hM : s.size ≤ 16000000) :
    Calls Tryz.prog 56 #[.string s] w fun e w' => e = .returned (.string (strOfNums (textH (byteL s)))) ∧ Below w.heap.size w w' := by
  have BL := Lib.hid (byteL_len s)
  have SL := Lib.hid (sumH_len (byteL s)); have SB := Lib.hid (sumH_by (byteL s))
  have TE := Lib.hid (show textH (byteL s) = hexL (sumH (byteL s)) from rfl)
  go_enter Tryz.func56, Tryz.ntmps56
  go_wp2_with (with_reducible refine wpList_bytes rfl _ rfl s rfl ?_)
  intro cap w1 hcap hbs hb1
  have BW := Lib.hid hb1; have HBS := Lib.hid hbs
  clear hb1 hbs
  go_wp2_with fail
  refine (refsum_any _ s.size cap (byteL s) w1 (byteL_by s) HBS.out BL.out hM).mono ?_
  rintro e w2 ⟨rfl, hb2⟩
  have BW2 := Lib.hid (BW.out.trans (hb2.mono BW.out.size))
  clear hb2 BW HBS
  generalize sumH (byteL s) = f at *
  have LE := Lib.hid (show (U8 f).length = 32 by simp [U8, SL.out])
  have ONE := Lib.hid (U8_one f)
  have R := Lib.hid (Row.new w2 122 (U8 (List.replicate 32 0)))
  have KEY := Lib.hid (R.out.setAll (U8 f) (by rw [LE.out]; rfl))
  go_wp2_with (first
    | (with_reducible refine wpList_value rfl _ _ (exec_alloc rfl zero24) ?_)
    | (with_reducible refine wpList_store_mid rfl 122 (.tmp 3) (.tmp 6) rfl w2.heap.size 0 _ rfl rfl ?ht ?hi ?h1 ?_))
  case ht => rw [show (U8 f).toArray.size = 32 from LE.out]; exact R.out.there
  case hi => rw [show (U8 f).toArray.size = 32 from LE.out]; first | exact info24 | exact info24b
  case h1 => exact ONE.out
  refine (refhex_any _ 32 32 f _ SB.out (fun _ => ⟨_, rfl, KEY.out.lt, fun j x hx => by
    rw [Addr.add_mid, Nat.zero_add]
    exact (KEY.out.cell j).trans (U8_get hx)⟩) SL.out (by omega)).mono ?_
  rintro e w3 ⟨rfl, hb3⟩
  have BW3 := Lib.hid (show Below w.heap.size w (w2.alloc (.cells (U8 (List.replicate 32 0)).toArray 122)) from BW2.out.alloc BW2.out.size _)
  have BW4 := Lib.hid (below_setCells (b := w2.heap.size) BW2.out.size (U8 f) 0 _ BW3.out)
  have BW5 := Lib.hid (BW4.out.trans (hb3.mono BW4.out.size))
  clear hb3 BW2 BW3 BW4 R KEY
  go_wp2_with fail
  go_ret
  exact ⟨by rw [TE.out]; rfl, BW5.out⟩
theorem join3_eq (us rs ps : ByteArray) : byteL (us ++ ⟨#[58]⟩ ++ rs ++ ⟨#[58]⟩ ++ ps) = joinL [58] [byteL us, byteL rs, byteL ps] := by
  rw [byteL_app, byteL_app, byteL_app, byteL_app, joinL_cons, joinL_cons, joinL_one, show byteL ⟨#[58]⟩ = [58] from rfl]
  simp
set_option maxRecDepth 100000 in
theorem refsecret_any (us rs ps : ByteArray) (w : World) (h1 : us.size ≤ 4000000) (h2 : rs.size ≤ 4000000) (h3 : ps.size ≤ 4000000) :
    Calls Tryz.prog 18 #[.string us, .string rs, .string ps] w fun e w' => e = .returned (.string (strOfNums (hashL [byteL us, byteL rs, byteL ps]))) ∧ Below w.heap.size w w' := by
  have HE := Lib.hid (show textH (byteL (us ++ ⟨#[58]⟩ ++ rs ++ ⟨#[58]⟩ ++ ps)) = hashL [byteL us, byteL rs, byteL ps] by rw [join3_eq]; rfl)
  have SZ := Lib.hid (show (us ++ ⟨#[58]⟩ ++ rs ++ ⟨#[58]⟩ ++ ps : ByteArray).size ≤ 16000000 by
    rw [ByteArray.size_append, ByteArray.size_append, ByteArray.size_append, ByteArray.size_append]
    show us.size + 1 + rs.size + 1 + ps.size ≤ _
    omega)
  go_enter Tryz.func18, Tryz.ntmps18
  go_wp2_with fail
  refine (refhash_any _ _ SZ.out).mono ?_
  rintro e w1 ⟨rfl, hb1⟩
  have B1 := Lib.hid hb1
  clear hb1
  rw [HE.out]
  go_wp2_with fail
  go_ret
  exact ⟨rfl, B1.out⟩
end Go.Proofs.YtfhbpgickkibmaaGreatDoor
namespace Go.Proofs.YtfhbpgickkibmaaGreatDoor
open Go.RowKit

set_option maxRecDepth 100000 in
theorem countw_any (k r : Int) (w : World) (hr : k % 4294967296 = r) : Calls Tryz.prog 48 #[.int .i64 k] w fun e w' => e = .returned (.string (strOfNums (hex8 r))) ∧ Below w.heap.size w w' := by
  have h0 : 0 ≤ r := by omega
  have h1 : r ≤ 4294967295 := by omega
  have HE := Lib.hid (hex8_eq r h0 h1)
  have e1 : IntKind.u32.wrap k = r := by rw [IntKind.wrap_u32]; exact hr
  go_enter Tryz.func48, Tryz.ntmps48
  go_wp2_with fail
  clear e1 hr
  rw [show r / 16777216 = r / 16777216 % 256 by omega]
  have hb : By [r / 16777216 % 256, r / 65536 % 256, r / 256 % 256, r % 256] := fun x hx => by
    simp at hx
    rcases hx with rfl | rfl | rfl | rfl <;> omega
  have hA := Bs.row (Row.new w 5 (U8 [r / 16777216 % 256, r / 65536 % 256, r / 256 % 256, r % 256]))
  refine (hex_any _ 4 4 [r / 16777216 % 256, r / 65536 % 256, r / 256 % 256, r % 256] _ hb hA rfl (Nat.le_refl _) (by decide)).mono ?_
  rintro e w1 ⟨rfl, hb1⟩
  have B1 := Lib.hid (bthen ((Below.refl w.heap.size w).alloc (Nat.le_refl _) _) hb1)
  clear hb1 hA hb
  rw [HE.out]
  go_wp2_with fail
  go_ret
  exact ⟨rfl, B1.out⟩
def respL (se n : List Int) (k : Int) (c : List Int) (g : Bool) (u m b : List Int) : List Int := hashL [se, n, hex8 k, c, QUAL g, if g = true then hashL [m, u, textH b] else hashL [m, u]]
theorem respL_by (se n : List Int) (k : Int) (c : List Int) (g : Bool) (u m b : List Int) : By (respL se n k c g u m b) := hashL_by _
theorem respL_len (se n : List Int) (k : Int) (c : List Int) (g : Bool) (u m b : List Int) : (respL se n k c g u m b).length = 64 := hashL_len _
theorem htextb_any (bs : List Int) (w : World) (hb : By bs) (hM : bs.length ≤ 16000000) (hK : KC w) : Calls Tryz.prog 34 #[.string (strOfNums bs)] w fun e w' => e = .returned (.string (strOfNums (textH bs))) ∧ Below w.heap.size w w' := by
  have h := htext_any (strOfNums bs) w (by rw [num_size]; exact hM) hK
  rwa [byteL_str hb] at h
theorem refhashb_any (bs : List Int) (w : World) (hb : By bs) (hM : bs.length ≤ 16000000) : Calls Tryz.prog 56 #[.string (strOfNums bs)] w fun e w' => e = .returned (.string (strOfNums (textH bs))) ∧ Below w.heap.size w w' := by
  have h := refhash_any (strOfNums bs) w (by rw [num_size]; exact hM)
  rwa [byteL_str hb] at h
theorem quality_bw (b : Bool) (w : World) : Calls Tryz.prog 39 #[.bool b] w fun e w' => e = .returned (.string (strOfNums (QUAL b))) ∧ Below w.heap.size w w' := (quality_any b w).mono fun _ _ h => ⟨h.1, h.2 ▸ Below.refl _ _⟩
theorem refquality_bw (b : Bool) (w : World) : Calls Tryz.prog 52 #[.bool b] w fun e w' => e = .returned (.string (strOfNums (QUAL b))) ∧ Below w.heap.size w w' := (refquality_any b w).mono fun _ _ h => ⟨h.1, h.2 ▸ Below.refl _ _⟩
theorem QUAL_by (b : Bool) : By (QUAL b) := by unfold By QUAL; cases b <;> decide
theorem QUAL_len (b : Bool) : (QUAL b).length ≤ 8 := by cases b <;> decide
theorem Row.later {w : World} {b : Nat} {T : TypeId} {vs : List Value} (h : Row w b T vs) (x : BW w) (i : Nat) : x.w.cell? ⟨b, i, none⟩ = vs[i]? := (h.below x.h).cell i
set_option maxRecDepth 100000 in
set_option maxHeartbeats 1000000 in
theorem response_any (ss ms us rs ns is ps cs os : ByteArray) (k r : Int) (g : Bool) (A : Option Addr) (n c : Nat) (bs : List Int) (w : World) (hb : By bs) (hn : bs.length = n) (hA : Bs w w.heap.size A bs) (hr : k % 4294967296 = r)
    (hz : ss.size + ns.size + cs.size ≤ 14000000) (hz2 : ms.size + is.size ≤ 14000000) (hz3 : n ≤ 16000000) (hK : KC w) :
    Calls Tryz.prog 19 #[.string ss, .agg #[.string us, .string rs, .string ns, .string is, .string ps, .string cs, .string os, .int .i64 k, .bool g], .string ms, .slice A n c] w fun e w' => e = .returned (.string (strOfNums (respL (byteL ss) (byteL ns) r (byteL cs) g (byteL is) (byteL ms) bs))) ∧ Below w.heap.size w w' := by
  have HB := Lib.hid hb; have HN := Lib.hid hn; have HR := Lib.hid hr; have HK := Lib.hid hK
  have HE := Lib.hid (show respL (byteL ss) (byteL ns) r (byteL cs) g (byteL is) (byteL ms) bs = hashL [byteL ss, byteL ns, hex8 r, byteL cs, QUAL g, if g = true then hashL [byteL ms, byteL is, textH bs] else hashL [byteL ms, byteL is]] from rfl)
  have S2 := Lib.hid (show (([ms, is].map byteL).map (·.length)).sum ≤ 15000000 by simp only [List.map_cons, List.map_nil, List.sum_cons, List.sum_nil, byteL_len]; omega)
  have S3 := Lib.hid (show (([ms, is, strOfNums (textH bs)].map byteL).map (·.length)).sum ≤ 15000000 by simp only [List.map_cons, List.map_nil, List.sum_cons, List.sum_nil, byteL_len, num_size, textH_len]; omega)
  have S6 := Lib.hid (fun (act : List Int) (ha : act.length = 64) => show (([ss, ns, strOfNums (hex8 r), cs, strOfNums (QUAL g), strOfNums act].map byteL).map (·.length)).sum ≤ 15000000 by
    have q := QUAL_len g
    simp only [List.map_cons, List.map_nil, List.sum_cons, List.sum_nil, byteL_len, num_size, ha]
    show _ + (_ + (8 + _)) ≤ _
    omega)
  have E6 := Lib.hid (fun (act : List Int) (ha : By act) => show [ss, ns, strOfNums (hex8 r), cs, strOfNums (QUAL g), strOfNums act].map byteL = [byteL ss, byteL ns, hex8 r, byteL cs, QUAL g, act] by
    simp only [List.map_cons, List.map_nil]
    rw [byteL_str (hex8_by r (by omega)), byteL_str (QUAL_by g), byteL_str ha])
  have E3 := Lib.hid (show [ms, is, strOfNums (textH bs)].map byteL = [byteL ms, byteL is, textH bs] by
    simp only [List.map_cons, List.map_nil]
    rw [byteL_str (textH_by bs)])
  have BL := Lib.hid (show bs.length ≤ 16000000 by omega)
  clear hb hn hr hK hz hz2 hz3
  have RB := Lib.hid (Row.new w 23 [.string us, .string rs, .string ns, .string is, .string ps, .string cs, .string os, .int .i64 k, .bool g])
  have B0 := Lib.hid ((Below.refl w.heap.size w).alloc (Nat.le_refl _) (.cells #[.string us, .string rs, .string ns, .string is, .string ps, .string cs, .string os, .int .i64 k, .bool g] 23))
  have K0 := Lib.hid (HK.out.below B0.out)
  have HA := Lib.hid ((hA.below B0.out).up B0.out.size)
  clear hA HK
  go_enter Tryz.func19, Tryz.ntmps19
  have c3 : (w.alloc (.cells #[.string us, .string rs, .string ns, .string is, .string ps, .string cs, .string os, .int .i64 k, .bool g] 23)).cell? ⟨w.heap.size, 3, none⟩ = some (.string is) := RB.out.cell 3
  have R2 := Lib.hid (show Row ((w.alloc (.cells #[.string us, .string rs, .string ns, .string is, .string ps, .string cs, .string os, .int .i64 k, .bool g] 23)).alloc (.cells #[.string ms, .string is] 9)) (w.heap.size + 1) 9 [.string ms, .string is] by
    have h := Row.new (w.alloc (.cells #[.string us, .string rs, .string ns, .string is, .string ps, .string cs, .string os, .int .i64 k, .bool g] 23)) 9 [.string ms, .string is]
    rwa [World.size_alloc] at h)
  have BA := Lib.hid (show Below (w.alloc (.cells #[.string us, .string rs, .string ns, .string is, .string ps, .string cs, .string os, .int .i64 k, .bool g] 23)).heap.size (w.alloc (.cells #[.string us, .string rs, .string ns, .string is, .string ps, .string cs, .string os, .int .i64 k, .bool g] 23)) _ from (Below.refl _ _).alloc (Nat.le_refl _) (.cells #[.string ms, .string is] 9))
  go_wp2_with fail
  clear c3
  refine (hashed_any [ms, is] _ 2 _ R2.out rfl (by decide) S2.out (K0.out.below BA.out)).mono ?_
  rintro e w1 ⟨rfl, hb1⟩
  rw [show [ms, is].map byteL = [byteL ms, byteL is] from rfl]
  have B1 := Lib.hid (bthen BA.out hb1)
  have R1 := Lib.hid (RB.out.below B1.out)
  have K1 := Lib.hid (K0.out.below B1.out)
  have A1 := Lib.hid ((HA.out.below B1.out).up B1.out.size)
  have BB := Lib.hid (bthen B0.out B1.out)
  have l0 : w.heap.size < w1.heap.size := R1.out.lt
  clear hb1 R2 BA B1 RB K0 HA B0
  cases g with
  | true =>
    have c8 : w1.cell? ⟨w.heap.size, 8, none⟩ = some (.bool true) := R1.out.cell 8
    go_wp2_with fail
    have q3 := fun x : BW w1 => R1.out.later x 3
    simp only [List.getElem?_cons_succ, List.getElem?_cons_zero] at q3
    refine region_bwt 6 (by kernel_rfl) (by kernel_rfl) ?_
    simp only [List.take_succ_cons, List.take_zero, List.drop_succ_cons, List.drop_zero]
    go_big_quiet_step (fail)
    go_big_quiet_step (fail)
    go_big_quiet_step (fail)
    go_big_quiet_step (fail)
    go_big_quiet_want
    refine quiet_val (.string (strOfNums bs)) (fun y => ?_) ?_
    · exact exec_conv rfl rfl (conv_bs (A1.out.below y.h) HB.out HN.out)
    simp only [Act.put, List.setIfInBounds_toArray, List.set_cons_zero, List.set_cons_succ]
    go_big_quiet_on
    go_big_quiet_step (exact calls_bw (htextb_any bs _ HB.out BL.out (K1.out.below (BW.h _))))
    refine wpQuiet_nil ?_
    rintro _ ⟨x, rfl⟩
    clear q3 c8
    obtain ⟨wx, hx⟩ : ∃ wx, wx = x.w := ⟨_, rfl⟩
    have BX := Lib.hid (show Below w1.heap.size w1 wx by rw [hx]; exact x.h)
    rw [← hx]
    clear hx x
    go_wp2_with fail
    have R3 := Lib.hid (Row.new wx 9 [.string ms, .string is, .string (strOfNums (textH bs))])
    have BC := Lib.hid (bthen BX.out ((Below.refl wx.heap.size wx).alloc (Nat.le_refl _) (.cells #[.string ms, .string is, .string (strOfNums (textH bs))] 9)))
    refine (hashed_any [ms, is, strOfNums (textH bs)] _ 3 _ R3.out rfl (by decide) S3.out (K1.out.below BC.out)).mono ?_
    rintro e w2 ⟨rfl, hb2⟩
    rw [E3.out]
    have B2 := Lib.hid (bthen BC.out hb2)
    have R2 := Lib.hid (R1.out.below B2.out)
    have K2 := Lib.hid (K1.out.below B2.out)
    have BD := Lib.hid (bthen BB.out B2.out)
    have AB := Lib.hid (hashL_by [byteL ms, byteL is, textH bs])
    have AL := Lib.hid (hashL_len [byteL ms, byteL is, textH bs])
    have HF := Lib.hid (show respL (byteL ss) (byteL ns) r (byteL cs) true (byteL is) (byteL ms) bs = hashL [byteL ss, byteL ns, hex8 r, byteL cs, QUAL true, hashL [byteL ms, byteL is, textH bs]] from rfl)
    generalize hashL [byteL ms, byteL is, textH bs] = act at *
    clear hb2 B2 BC R3 BX R1 K1 BB l0 HE
    go_wp2_with fail
    have q2 := fun x : BW w2 => R2.out.later x 2
    have q5 := fun x : BW w2 => R2.out.later x 5
    have q7 := fun x : BW w2 => R2.out.later x 7
    have q8 := fun x : BW w2 => R2.out.later x 8
    simp only [List.getElem?_cons_succ, List.getElem?_cons_zero] at q2 q5 q7 q8
    refine region_bwt 12 (by kernel_rfl) (by kernel_rfl) ?_
    simp only [List.take_succ_cons, List.take_zero, List.drop_succ_cons, List.drop_zero]
    go_big_quiet_step (fail)
    go_big_quiet_step (fail)
    go_big_quiet_step (fail)
    go_big_quiet_step (fail)
    go_big_quiet_step (fail)
    go_big_quiet_step (exact calls_bw (countw_any k r _ HR.out))
    go_big_quiet_step (fail)
    go_big_quiet_step (fail)
    go_big_quiet_step (fail)
    go_big_quiet_step (fail)
    go_big_quiet_step (exact calls_bw (quality_bw true _))
    go_big_quiet_step (fail)
    refine wpQuiet_nil ?_
    rintro _ ⟨x, rfl⟩
    clear q2 q5 q7 q8
    obtain ⟨wx, hx⟩ : ∃ wx, wx = x.w := ⟨_, rfl⟩
    have BX := Lib.hid (show Below w2.heap.size w2 wx by rw [hx]; exact x.h)
    rw [← hx]
    clear hx x
    go_wp2_with fail
    have R6 := Lib.hid (Row.new wx 9 [.string ss, .string ns, .string (strOfNums (hex8 r)), .string cs, .string (strOfNums (QUAL true)), .string (strOfNums act)])
    have BC := Lib.hid (bthen BX.out ((Below.refl wx.heap.size wx).alloc (Nat.le_refl _) (.cells #[.string ss, .string ns, .string (strOfNums (hex8 r)), .string cs, .string (strOfNums (QUAL true)), .string (strOfNums act)] 9)))
    refine (hashed_any [ss, ns, strOfNums (hex8 r), cs, strOfNums (QUAL true), strOfNums act] _ 6 _ R6.out rfl (by decide) (S6.out act AL.out) (K2.out.below BC.out)).mono ?_
    rintro e w9 ⟨rfl, hb9⟩
    rw [E6.out act AB.out]
    have B9 := Lib.hid (bthen BD.out (bthen BC.out hb9))
    clear hb9 BC R6 BX
    rw [← HF.out]
    go_wp2_with fail
    go_ret
    exact ⟨rfl, B9.out⟩
  | false =>
    have c8 : w1.cell? ⟨w.heap.size, 8, none⟩ = some (.bool false) := R1.out.cell 8
    have AB := Lib.hid (hashL_by [byteL ms, byteL is])
    have AL := Lib.hid (hashL_len [byteL ms, byteL is])
    have HF := Lib.hid (show respL (byteL ss) (byteL ns) r (byteL cs) false (byteL is) (byteL ms) bs = hashL [byteL ss, byteL ns, hex8 r, byteL cs, QUAL false, hashL [byteL ms, byteL is]] from rfl)
    generalize hashL [byteL ms, byteL is] = act at *
    go_wp2_with fail
    clear c8 HE
    have q2 := fun x : BW w1 => R1.out.later x 2
    have q5 := fun x : BW w1 => R1.out.later x 5
    have q7 := fun x : BW w1 => R1.out.later x 7
    have q8 := fun x : BW w1 => R1.out.later x 8
    simp only [List.getElem?_cons_succ, List.getElem?_cons_zero] at q2 q5 q7 q8
    refine region_bwt 12 (by kernel_rfl) (by kernel_rfl) ?_
    simp only [List.take_succ_cons, List.take_zero, List.drop_succ_cons, List.drop_zero]
    go_big_quiet_step (fail)
    go_big_quiet_step (fail)
    go_big_quiet_step (fail)
    go_big_quiet_step (fail)
    go_big_quiet_step (fail)
    go_big_quiet_step (exact calls_bw (countw_any k r _ HR.out))
    go_big_quiet_step (fail)
    go_big_quiet_step (fail)
    go_big_quiet_step (fail)
    go_big_quiet_step (fail)
    go_big_quiet_step (exact calls_bw (quality_bw false _))
    go_big_quiet_step (fail)
    refine wpQuiet_nil ?_
    rintro _ ⟨x, rfl⟩
    clear q2 q5 q7 q8
    obtain ⟨wx, hx⟩ : ∃ wx, wx = x.w := ⟨_, rfl⟩
    have BX := Lib.hid (show Below w1.heap.size w1 wx by rw [hx]; exact x.h)
    rw [← hx]
    clear hx x
    go_wp2_with fail
    have R6 := Lib.hid (Row.new wx 9 [.string ss, .string ns, .string (strOfNums (hex8 r)), .string cs, .string (strOfNums (QUAL false)), .string (strOfNums act)])
    have BC := Lib.hid (bthen BX.out ((Below.refl wx.heap.size wx).alloc (Nat.le_refl _) (.cells #[.string ss, .string ns, .string (strOfNums (hex8 r)), .string cs, .string (strOfNums (QUAL false)), .string (strOfNums act)] 9)))
    refine (hashed_any [ss, ns, strOfNums (hex8 r), cs, strOfNums (QUAL false), strOfNums act] _ 6 _ R6.out rfl (by decide) (S6.out act AL.out) (K1.out.below BC.out)).mono ?_
    rintro e w9 ⟨rfl, hb9⟩
    rw [E6.out act AB.out]
    have B9 := Lib.hid (bthen BB.out (bthen BC.out hb9))
    clear hb9 BC R6 BX
    rw [← HF.out]
    go_wp2_with fail
    go_ret
    exact ⟨rfl, B9.out⟩
end Go.Proofs.YtfhbpgickkibmaaGreatDoor
namespace Go.Proofs.YtfhbpgickkibmaaGreatDoor
open Go.RowKit

/-- A sum of texts, named. -/
theorem cat_name (a b : ByteArray) (m : Nat) (h : a.size + b.size ≤ m) (hm : m ≤ 100000000) : ∃ s : ByteArray, s.size ≤ m ∧ (∀ w, (Op.stringOp .add a b).run Tryz.prog w = .ok (.string s) w) ∧ Hid (byteL s = byteL a ++ byteL b) :=
  ⟨a ++ b, by rw [ByteArray.size_append]; exact h, fun w => run_string_add_sum (P := Tryz.prog) w a b (by omega), Lib.hid (byteL_app a b)⟩
set_option maxRecDepth 100000 in
theorem digitsw_any (k r : Int) (w : World) (hr : k % 4294967296 = r) : Calls Tryz.prog 53 #[.int .i64 k] w fun e w' => e = .returned (.string (strOfNums (hex8 r))) ∧ Below w.heap.size w w' := by
  have h0 : 0 ≤ r := by omega
  have h1 : r ≤ 4294967295 := by omega
  have H8 := Lib.hid (digB_8 r)
  have e1 : IntKind.u32.wrap k = r := by rw [IntKind.wrap_u32]; exact hr
  go_enter Tryz.func53, Tryz.ntmps53
  go_wp2_with fail
  clear e1 hr
  go_loop [3, 4, 5] (fun v3 v4 v5 => ∃ (i : Nat) (x : Nat) (t : ByteArray), i ≤ 8 ∧ v3 = .int .u32 (x : Int) ∧ v4 = .string t ∧ v5 = .int .i64 i ∧ x ≤ 4294967295 ∧ t.size ≤ 8 ∧ Hid ((x : Int) = r / 16 ^ i ∧ t = strOfNums (digB r i) ∧ t.size = i)) (fun _ _ v => 8 - (intOf v).toNat)
  case atStart => exact ⟨0, r.toNat, ⟨#[]⟩, Nat.zero_le _, by rw [Int.toNat_of_nonneg h0], rfl, rfl, by omega, Nat.zero_le _, Lib.hid ⟨by rw [Int.toNat_of_nonneg h0]; simp, rfl, rfl⟩⟩
  case round =>
    obtain ⟨i, x, t, hi, rfl, rfl, rfl, hx, ht, H⟩ := hrel
    by_cases hlt : i < 8
    · have hd : decide (i < 8) = true := by simp [hlt]
      have hd1 : decide ((i : Int) < 8) = true := by simp; omega
      obtain ⟨m, hm⟩ : ∃ m, x % 16 = m := ⟨_, rfl⟩
      obtain ⟨q, hq⟩ : ∃ q, x / 16 = q := ⟨_, rfl⟩
      have ml : m < 16 := by omega
      have DS := Lib.hid (dig_sub m ml)
      have mm : (x : Int) % 16 = (m : Int) := by omega
      have md : (x : Int) / 16 = (q : Int) := by omega
      have HM := Lib.hid hm
      have HQ := Lib.hid hq
      clear hm hq
      go_wp2_with fail
      have MK := Lib.hid (show r / 16 ^ i % 16 = (m : Int) by rw [← H.out.1]; exact mm)
      have QK := Lib.hid (show (q : Int) = r / 16 ^ (i + 1) by rw [← md, H.out.1, Int.pow_succ, Int.ediv_ediv, if_neg (fun h => absurd h.1 (Int.not_lt.2 (Int.le_of_lt (Int.pow_pos (by decide))))), Int.sub_zero])
      have TK := Lib.hid (show (⟨#[48, 49, 50, 51, 52, 53, 54, 55, 56, 57, 97, 98, 99, 100, 101, 102]⟩ : ByteArray).extract m (m + 1) ++ t = strOfNums (digB r (i + 1)) by
        rw [DS.out, H.out.2.1, str_app, digB, MK.out]; rfl)
      have SK := Lib.hid (show ((⟨#[48, 49, 50, 51, 52, 53, 54, 55, 56, 57, 97, 98, 99, 100, 101, 102]⟩ : ByteArray).extract m (m + 1) ++ t).size = i + 1 by
        rw [TK.out, num_size, digB_len])
      go_round
      case rel => exact ⟨i + 1, q, _, by omega, rfl, rfl, by go_num, by (have h5 := HQ.out; omega), by rw [SK.out]; omega, Lib.hid ⟨QK.out, TK.out, SK.out⟩⟩
      case measure => simp [intOf]; omega
    · obtain rfl : i = 8 := by omega
      have E := Lib.hid (show t = strOfNums (hex8 r) by rw [H.out.2.1, H8.out])
      go_wp2_with fail
      go_ret
      exact ⟨by rw [← E.out]; rfl, Below.refl _ _⟩
theorem refhashs_any (s : ByteArray) (X Y : List Int) (w : World) (hM : s.size ≤ 16000000) (hX : byteL s = X) (hY : textH X = Y) : Calls Tryz.prog 56 #[.string s] w fun e w' => e = .returned (.string (strOfNums Y)) ∧ Below w.heap.size w w' := by
  subst hX hY
  exact refhash_any s w hM
set_option maxRecDepth 100000 in
set_option maxHeartbeats 2000000 in
theorem refresponse_any (ss ms us rs ns is ps cs os : ByteArray) (k r : Int) (g : Bool) (A : Option Addr) (n c : Nat) (bs : List Int) (w : World) (hb : By bs) (hn : bs.length = n) (hA : Bs w w.heap.size A bs) (hr : k % 4294967296 = r)
    (hz0 : ss.size + ns.size + cs.size ≤ 14000000) (hz2 : ms.size + is.size ≤ 14000000) (hz3 : n ≤ 16000000) :
    Calls Tryz.prog 20 #[.string ss, .agg #[.string us, .string rs, .string ns, .string is, .string ps, .string cs, .string os, .int .i64 k, .bool g], .string ms, .slice A n c] w fun e w' => e = .returned (.string (strOfNums (respL (byteL ss) (byteL ns) r (byteL cs) g (byteL is) (byteL ms) bs))) ∧ Below w.heap.size w w' := by
  have HB := Lib.hid hb; have HN := Lib.hid hn; have HR := Lib.hid hr
  have HE := Lib.hid (show respL (byteL ss) (byteL ns) r (byteL cs) g (byteL is) (byteL ms) bs = hashL [byteL ss, byteL ns, hex8 r, byteL cs, QUAL g, if g = true then hashL [byteL ms, byteL is, textH bs] else hashL [byteL ms, byteL is]] from rfl)
  have BL := Lib.hid (show bs.length ≤ 16000000 by omega)
  have E2 := Lib.hid (show textH (byteL ms ++ [58] ++ byteL is) = hashL [byteL ms, byteL is] by unfold hashL; rw [joinL_cons, joinL_one]; simp)
  have E3 := Lib.hid (show textH (byteL ms ++ [58] ++ byteL is ++ [58] ++ textH bs) = hashL [byteL ms, byteL is, textH bs] by unfold hashL; rw [joinL_cons, joinL_cons, joinL_one]; simp)
  have h8 : (strOfNums (hex8 r)).size ≤ 8 := by rw [num_size]; exact Nat.le_refl _
  have q8 : (strOfNums (QUAL g)).size ≤ 8 := by rw [num_size]; exact QUAL_len g
  have t8 : (strOfNums (textH bs)).size ≤ 64 := by rw [num_size, textH_len]; exact Nat.le_refl _
  have o8 : (⟨#[58]⟩ : ByteArray).size ≤ 1 := Nat.le_refl _
  obtain ⟨u1, y1, d1, U1⟩ := cat_name ms ⟨#[58]⟩ (ms.size + 1) (by omega) (by omega)
  obtain ⟨u2, y2, d2, U2⟩ := cat_name u1 is (ms.size + 1 + is.size) (by omega) (by omega)
  obtain ⟨u3, y3, d3, U3⟩ := cat_name u2 ⟨#[58]⟩ (ms.size + 1 + is.size + 1) (by omega) (by omega)
  obtain ⟨u4, y4, d4, U4⟩ := cat_name u3 (strOfNums (textH bs)) (ms.size + 1 + is.size + 1 + 64) (by omega) (by omega)
  obtain ⟨s1, z1, a1, S1⟩ := cat_name ss ⟨#[58]⟩ (ss.size + 1) (by omega) (by omega)
  obtain ⟨s2, z2, a2, S2⟩ := cat_name s1 ns (ss.size + 1 + ns.size) (by omega) (by omega)
  obtain ⟨s3, z3, a3, S3⟩ := cat_name s2 ⟨#[58]⟩ (ss.size + 1 + ns.size + 1) (by omega) (by omega)
  obtain ⟨s4, z4, a4, S4⟩ := cat_name s3 (strOfNums (hex8 r)) (ss.size + 1 + ns.size + 1 + 8) (by omega) (by omega)
  obtain ⟨s5, z5, a5, S5⟩ := cat_name s4 ⟨#[58]⟩ (ss.size + 1 + ns.size + 1 + 8 + 1) (by omega) (by omega)
  obtain ⟨s6, z6, a6, S6⟩ := cat_name s5 cs (ss.size + 1 + ns.size + 1 + 8 + 1 + cs.size) (by omega) (by omega)
  obtain ⟨s7, z7, a7, S7⟩ := cat_name s6 ⟨#[58]⟩ (ss.size + 1 + ns.size + 1 + 8 + 1 + cs.size + 1) (by omega) (by omega)
  obtain ⟨s8, z8, a8, S8⟩ := cat_name s7 (strOfNums (QUAL g)) (ss.size + 1 + ns.size + 1 + 8 + 1 + cs.size + 1 + 8) (by omega) (by omega)
  obtain ⟨s9, z9, a9, S9⟩ := cat_name s8 ⟨#[58]⟩ (ss.size + 1 + ns.size + 1 + 8 + 1 + cs.size + 1 + 8 + 1) (by omega) (by omega)
  have V2 := Lib.hid (show byteL u2 = byteL ms ++ [58] ++ byteL is by rw [U2.out, U1.out]; rfl)
  have V4 := Lib.hid (show byteL u4 = byteL ms ++ [58] ++ byteL is ++ [58] ++ textH bs by rw [U4.out, U3.out, V2.out, byteL_str (textH_by bs)]; rfl)
  have V9 := Lib.hid (show byteL s9 = byteL ss ++ [58] ++ byteL ns ++ [58] ++ hex8 r ++ [58] ++ byteL cs ++ [58] ++ QUAL g ++ [58] by
    rw [S9.out, S8.out, S7.out, S6.out, S5.out, S4.out, S3.out, S2.out, S1.out, byteL_str (hex8_by r (by omega)), byteL_str (QUAL_by g)]; rfl)
  have z9' : s9.size ≤ 15000000 := by omega
  have y2' : u2.size ≤ 15000000 := by omega
  have y4' : u4.size ≤ 15000000 := by omega
  clear U1 U2 U3 U4 S1 S2 S3 S4 S5 S6 S7 S8 S9 z1 z2 z3 z4 z5 z6 z7 z8 z9 y1 y2 y3 y4 h8 q8 t8 o8 hb hn hr hz0 hz2 hz3
  have RB := Lib.hid (Row.new w 23 [.string us, .string rs, .string ns, .string is, .string ps, .string cs, .string os, .int .i64 k, .bool g])
  have B0 := Lib.hid ((Below.refl w.heap.size w).alloc (Nat.le_refl _) (.cells #[.string us, .string rs, .string ns, .string is, .string ps, .string cs, .string os, .int .i64 k, .bool g] 23))
  have HA := Lib.hid ((hA.below B0.out).up B0.out.size)
  clear hA
  go_enter Tryz.func20, Tryz.ntmps20
  have c3 : (w.alloc (.cells #[.string us, .string rs, .string ns, .string is, .string ps, .string cs, .string os, .int .i64 k, .bool g] 23)).cell? ⟨w.heap.size, 3, none⟩ = some (.string is) := RB.out.cell 3
  cases g with
  | true =>
    have c8 : (w.alloc (.cells #[.string us, .string rs, .string ns, .string is, .string ps, .string cs, .string os, .int .i64 k, .bool true] 23)).cell? ⟨w.heap.size, 8, none⟩ = some (.bool true) := RB.out.cell 8
    have cv := conv_bs (c := c) HA.out HB.out HN.out
    have HF := Lib.hid (show respL (byteL ss) (byteL ns) r (byteL cs) true (byteL is) (byteL ms) bs = hashL [byteL ss, byteL ns, hex8 r, byteL cs, QUAL true, hashL [byteL ms, byteL is, textH bs]] from rfl)
    go_wp2_with fail
    refine (refhashb_any bs _ HB.out BL.out).mono ?_
    rintro e w1 ⟨rfl, hb1⟩
    have R1 := Lib.hid (RB.out.below hb1)
    have BB := Lib.hid (bthen B0.out hb1)
    clear hb1 cv HE c3 c8
    go_wp2_with fail
    obtain ⟨act, hact⟩ : ∃ act, act = hashL [byteL ms, byteL is, textH bs] := ⟨_, rfl⟩
    have AB : By act := by rw [hact]; exact hashL_by _
    have AL : act.length = 64 := by rw [hact]; exact hashL_len _
    have TA := Lib.hid (show textH (byteL ms ++ [58] ++ byteL is ++ [58] ++ textH bs) = act by rw [hact]; exact E3.out)
    obtain ⟨s10, z10, a10, S10⟩ := cat_name s9 (strOfNums act) 15000064 (by rw [num_size, AL]; omega) (by decide)
    have VA := Lib.hid (show textH (byteL s10) = respL (byteL ss) (byteL ns) r (byteL cs) true (byteL is) (byteL ms) bs by
      rw [HF.out, ← hact, S10.out, V9.out, byteL_str AB]
      unfold hashL
      rw [joinL_cons, joinL_cons, joinL_cons, joinL_cons, joinL_cons, joinL_one]
      simp)
    have AB2 := Lib.hid AB
    clear AB AL S10 hact HF
    have q2 := fun x : BW w1 => R1.out.later x 2
    have q5 := fun x : BW w1 => R1.out.later x 5
    have q7 := fun x : BW w1 => R1.out.later x 7
    have q8 := fun x : BW w1 => R1.out.later x 8
    simp only [List.getElem?_cons_succ, List.getElem?_cons_zero] at q2 q5 q7 q8
    refine region_bw (by kernel_rfl) (by kernel_rfl) ?_
    iterate 8 go_big_quiet_step (fail)
    go_big_quiet_step (exact calls_bw (digitsw_any k r _ HR.out))
    iterate 8 go_big_quiet_step (fail)
    go_big_quiet_step (exact calls_bw (refquality_bw true _))
    iterate 3 go_big_quiet_step (fail)
    go_big_quiet_step (exact calls_bw (refhashs_any u4 _ act _ (by omega) V4.out TA.out))
    go_big_quiet_step (fail)
    go_big_quiet_step (exact calls_bw (refhashs_any s10 _ _ _ (by omega) rfl VA.out))
    go_big_quiet_step (fail)
    refine wpQuiet_nil ?_
    rintro _ ⟨x, rfl⟩
    have B9 := Lib.hid (bthen BB.out x.h)
    clear q2 q5 q7 q8
    go_wp2_with fail
    go_ret
    exact ⟨rfl, B9.out⟩
  | false =>
    have c8 : (w.alloc (.cells #[.string us, .string rs, .string ns, .string is, .string ps, .string cs, .string os, .int .i64 k, .bool false] 23)).cell? ⟨w.heap.size, 8, none⟩ = some (.bool false) := RB.out.cell 8
    have HF := Lib.hid (show respL (byteL ss) (byteL ns) r (byteL cs) false (byteL is) (byteL ms) bs = hashL [byteL ss, byteL ns, hex8 r, byteL cs, QUAL false, hashL [byteL ms, byteL is]] from rfl)
    go_wp2_with fail
    clear HE c3 c8
    generalize w.alloc (.cells #[.string us, .string rs, .string ns, .string is, .string ps, .string cs, .string os, .int .i64 k, .bool false] 23) = W at *
    obtain ⟨act, hact⟩ : ∃ act, act = hashL [byteL ms, byteL is] := ⟨_, rfl⟩
    have AB : By act := by rw [hact]; exact hashL_by _
    have AL : act.length = 64 := by rw [hact]; exact hashL_len _
    have TA := Lib.hid (show textH (byteL ms ++ [58] ++ byteL is) = act by rw [hact]; exact E2.out)
    obtain ⟨s10, z10, a10, S10⟩ := cat_name s9 (strOfNums act) 15000064 (by rw [num_size, AL]; omega) (by decide)
    have VA := Lib.hid (show textH (byteL s10) = respL (byteL ss) (byteL ns) r (byteL cs) false (byteL is) (byteL ms) bs by
      rw [HF.out, ← hact, S10.out, V9.out, byteL_str AB]
      unfold hashL
      rw [joinL_cons, joinL_cons, joinL_cons, joinL_cons, joinL_cons, joinL_one]
      simp)
    have AB2 := Lib.hid AB
    clear AB AL S10 hact HF
    have q2 := fun x : BW W => RB.out.later x 2
    have q5 := fun x : BW W => RB.out.later x 5
    have q7 := fun x : BW W => RB.out.later x 7
    have q8 := fun x : BW W => RB.out.later x 8
    simp only [List.getElem?_cons_succ, List.getElem?_cons_zero] at q2 q5 q7 q8
    refine region_bw (by kernel_rfl) (by kernel_rfl) ?_
    iterate 8 go_big_quiet_step (fail)
    go_big_quiet_step (exact calls_bw (digitsw_any k r _ HR.out))
    iterate 8 go_big_quiet_step (fail)
    go_big_quiet_step (exact calls_bw (refquality_bw false _))
    iterate 3 go_big_quiet_step (fail)
    go_big_quiet_step (exact calls_bw (refhashs_any u2 _ act _ (by omega) V2.out TA.out))
    go_big_quiet_step (fail)
    go_big_quiet_step (exact calls_bw (refhashs_any s10 _ _ _ (by omega) rfl VA.out))
    go_big_quiet_step (fail)
    refine wpQuiet_nil ?_
    rintro _ ⟨x, rfl⟩
    have B9 := Lib.hid (bthen B0.out x.h)
    clear q2 q5 q7 q8
    go_wp2_with fail
    go_ret
    exact ⟨rfl, B9.out⟩
end Go.Proofs.YtfhbpgickkibmaaGreatDoor
