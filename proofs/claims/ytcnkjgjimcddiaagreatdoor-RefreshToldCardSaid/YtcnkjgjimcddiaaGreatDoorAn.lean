/- Contract: header.Item, where the text has no bracket. Contracts: address.Get; header's kindOf, many, Many. Contracts: header.List, message's elements. -/
import Derived.Test.YtcnkjgjimcddiaaGreatDoorAk
import Derived.Test.YtcnkjgjimcddiaaGreatDoorAg
namespace Go.Proofs.YtcnkjgjimcddiaaGreatDoor
open Go.RowKit

theorem sizeIt (a b : Value) : (Tryz.prog.info? 77).map (·.size) = some [a, b].length := show (Tryz.prog.info? 77).map (·.size) = some 2 by kernel_rfl
theorem lenIt (a b c d : Value) : [a, b].length = [c, d].length := rfl
theorem it_one (a : ByteArray) (A : Option Addr) {n c : Nat} : ∀ u ∈ [Value.string a, .slice A n c], u.oneCell' = true := fun u hu => by
  simp at hu
  rcases hu with rfl | rfl <;> rfl
/-- What lies in a slice of one's own, kept over calls that only make memory. -/
def ItemP (w : World) (R : Except Int (List Int × List Pm)) (e : Ending) (w' : World) : Prop := match R with
  | .error k => e = .returned (.tuple #[.agg #[.string ⟨#[]⟩, .slice none 0 0], .int .u8 k]) ∧ Below w.heap.size w w' ∧ k ≠ 0
  | .ok q => ∃ A c, e = .returned (.tuple #[.agg #[.string (strOfNums q.1), .slice A q.2.length c], .int .u8 0]) ∧ Below w.heap.size w w' ∧ Rds w' w'.heap.size A (pms q.2) ∧ q.2.length ≤ 16 ∧ q.2.length ≤ c ∧ ∀ b o s, A = some ⟨b, o, s⟩ → w.heap.size ≤ b
theorem ItemP.bad {w w' : World} {R : Except Int (List Int × List Pm)} {k : Int} (h : R = .error k) (hk : k ≠ 0) (hb : Below w.heap.size w w') : ItemP w R (.returned (.tuple #[.agg #[.string ⟨#[]⟩, .slice none 0 0], .int .u8 k])) w' := by
  subst h; exact ⟨rfl, hb, hk⟩
theorem ItemP.good {w w' : World} {R : Except Int (List Int × List Pm)} {t : List Int} {l : List Pm} {A : Option Addr} {c : Nat} (h : R = .ok (t, l)) (hb : Below w.heap.size w w') (hr : Rds w' w'.heap.size A (pms l)) (hl : l.length ≤ 16) (hc : l.length ≤ c) (hf : ∀ b o s, A = some ⟨b, o, s⟩ → w.heap.size ≤ b) : ItemP w R (.returned (.tuple #[.agg #[.string (strOfNums t), .slice A l.length c], .int .u8 0])) w' := by
  subst h; exact ⟨A, c, rfl, hb, hr, hl, hc, hf⟩
theorem Rds.heapR {w w' : World} {A : Option Addr} {cs : List Value} {x : Nat} (h : Rds w w.heap.size A cs) (hp : ∀ b o s, A = some ⟨b, o, s⟩ → b ≠ x) (hs : w'.heap.size = w.heap.size) (hh : ∀ b, b ≠ x → w'.heap[b]? = w.heap[b]?) : Rds w' w'.heap.size A cs := fun hn => by
  obtain ⟨b, o, e, hb, hc⟩ := h hn
  exact ⟨b, o, e, by omega, fun j u hu => (World.cell?_of_block (w := w) (a := ⟨b, o + j, none⟩) (hh b (hp b o none e))).trans (hc j u hu)⟩
theorem itemL_eq {X0 X : List Int} {e1 e2 : Nat} (hX : trimB X0 = X) (h1 : skipTo isTok X 0 = e1) (h2 : skipTo isTok X (e1 + 1) = e2) :
    itemL X0 = if e1 = 0 then .error 5 else
      if e1 < X.length ∧ X.getD e1 0 = 47 then (if e2 = e1 + 1 then .error 5 else (match paramsL (X.drop e2) with | .error k => .error k.2 | .ok l => .ok (X.take e2, l)))
      else (match paramsL (X.drop e1) with | .error k => .error k.2 | .ok l => .ok (X.take e1, l)) := by
  subst hX; subst h1; subst h2
  unfold itemL
  dsimp only
  split
  · rfl
  by_cases h : skipTo isTok (trimB X0) 0 < (trimB X0).length ∧ (trimB X0).getD (skipTo isTok (trimB X0) 0) 0 = 47
  · rw [if_pos h, decide_eq_true h.1, h.2]
    simp only [Bool.true_and, BEq.rfl, true_and, if_true]
    cases paramsL (List.drop (skipTo isTok (trimB X0) (skipTo isTok (trimB X0) 0 + 1)) (trimB X0)) <;> rfl
  · have hf : (decide (skipTo isTok (trimB X0) 0 < (trimB X0).length) && ((trimB X0).getD (skipTo isTok (trimB X0) 0) 0 == 47)) = false := by
      rw [Bool.eq_false_iff]
      intro hc
      simp at hc
      exact h ⟨hc.1, by simpa using hc.2⟩
    rw [if_neg h, hf]
    simp only [Bool.false_eq_true, false_and, if_false]
    cases paramsL (List.drop (skipTo isTok (trimB X0) 0) (trimB X0)) <;> rfl
theorem item_text {X0 t : List Int} {ps : List Pm} (hX : By X0) (hl : X0.length ≤ 4000000) (h : itemL X0 = .ok (t, ps)) : By t ∧ t.length ≤ 4000000 := by
  have key : ∃ e, t = (trimB X0).take e := by
    rw [itemL_eq rfl rfl rfl] at h
    split at h
    · cases h
    split at h
    · split at h
      · cases h
      · split at h
        · cases h
        · injection h with h
          injection h with h1 h2
          exact ⟨_, h1.symm⟩
    · split at h
      · cases h
      · injection h with h
        injection h with h1 h2
        exact ⟨_, h1.symm⟩
  obtain ⟨e, rfl⟩ := key
  have h1 := (trimB_sub X0).length_le
  exact ⟨(hX.sub (trimB_sub X0)).sub (List.take_sublist _ _), by rw [List.length_take]; omega⟩
set_option maxRecDepth 100000 in
set_option maxHeartbeats 2000000 in
theorem item_any (s : ByteArray) (w : World) (hs : s.size ≤ 4000000) (hB : ¬ (91 : Int) ∈ byteL s) : Calls Tryz.prog 43 #[.string s] w (ItemP w (itemL (byteL s))) := by
  obtain ⟨X, hX⟩ : ∃ X, trimB (byteL s) = X := ⟨_, rfl⟩
  obtain ⟨e1, he1⟩ : ∃ k, skipTo isTok X 0 = k := ⟨_, rfl⟩
  obtain ⟨e2, he2⟩ : ∃ k, skipTo isTok X (e1 + 1) = k := ⟨_, rfl⟩
  have IE := Lib.hid (itemL_eq hX he1 he2)
  have HNB := Lib.hid (show ¬ (91 : Int) ∈ X by rw [← hX]; exact fun h => hB ((trimB_sub _).subset h))
  have BX : By X := by rw [← hX]; exact (byteL_by s).sub (trimB_sub _)
  have XL : X.length ≤ 4000000 := by rw [← hX]; have h1 := (trimB_sub (byteL s)).length_le; rw [byteL_len] at h1; omega
  have BAD := Lib.hid (fun w' k h hk hb => ItemP.bad (w := w) (w' := w') (R := itemL (byteL s)) (k := k) h hk hb)
  have GOOD := Lib.hid (fun w' t l A c h hb hr hl hc hf => ItemP.good (w := w) (w' := w') (R := itemL (byteL s)) (t := t) (l := l) (A := A) (c := c) h hb hr hl hc hf)
  have TR := Lib.hid (fun w => hdtrim_any s w hs)
  rw [hX] at TR
  generalize ItemP w (itemL (byteL s)) = PP at *
  generalize itemL (byteL s) = R at *
  clear hB hX
  have BT0 := byteL_str BX
  have ZT : (strOfNums X).size = X.length := num_size _
  have IDX := Lib.hid (fun (i : Nat) (h : i < (strOfNums X).size) (w : World) => idx_str (strOfNums X) (i := i) h (z := (i : Int)) rfl w)
  rw [BT0] at IDX
  obtain ⟨t, ht⟩ : ∃ t, strOfNums X = t := ⟨_, rfl⟩
  rw [ht] at TR BT0 ZT IDX
  have BT := Lib.hid BT0
  have ZH := Lib.hid ZT
  have ts : t.size ≤ 4000000 := by omega
  have e1s : e1 ≤ t.size := by rw [ZT, ← he1]; exact skip_le (Nat.zero_le _)
  have E2S := Lib.hid (fun (h : e1 < t.size) => show e2 ≤ t.size by rw [ZH.out, ← he2]; exact skip_le (by rw [← ZH.out]; exact h))
  have T1 := Lib.hid (fun w => tokend0 t w e1 (by rw [BT.out]; exact he1) ts)
  have T2 := Lib.hid (fun w (h : e1 + 1 ≤ t.size) => show Calls Tryz.prog 55 #[.string t, .int .i64 ((e1 : Int) + 1)] w fun e w' => e = .returned (.int .i64 (e2 : Nat)) ∧ Below w.heap.size w w' by
    have h2 := tokend_any t ((e1 : Int) + 1) w (by omega) (by omega)
    rw [show ((e1 : Int) + 1) = ((e1 + 1 : Nat) : Int) by push_cast; rfl, clipN h, BT.out, he2] at h2
    rw [show ((e1 : Int) + 1) = ((e1 + 1 : Nat) : Int) by push_cast; rfl]
    exact h2)
  clear ht BT0 ZT he1 he2 BX XL
  have R0 := Lib.hid (Row.new w 77 [.string ⟨#[]⟩, .slice none 0 0])
  have B0 := Lib.hid ((Below.refl w.heap.size w).alloc (Nat.le_refl _) (.cells #[.string ⟨#[]⟩, .slice none 0 0] 77))
  go_enter Tryz.func43, Tryz.ntmps43
  go_wp2_with fail
  generalize w.alloc (.cells #[.string ⟨#[]⟩, .slice none 0 0] 77) = W0 at *
  refine (TR.out W0).mono ?_
  rintro e w1 ⟨rfl, hb⟩
  have B1 := Lib.hid (bthen B0.out hb)
  have R1 := Lib.hid (R0.out.below hb)
  clear hb B0 R0 TR
  go_wp2_with fail
  refine (T1.out w1).mono ?_
  rintro e w2 ⟨rfl, hb⟩
  have BW := Lib.hid (bthen B1.out hb)
  have RW := Lib.hid (R1.out.below hb)
  clear hb B1 R1 T1
  by_cases h0 : e1 = 0
  · have d0 : ((e1 : Int) == 0) = true := by simp [h0]
    have E := Lib.hid (IE.out.trans (if_pos h0))
    have BB := Lib.hid BW.out
    have RR := Lib.hid RW.out
    clear IE h0
    go_wp2_with (with_reducible refine wpList_storeR rfl 77 (.tmp 2) (.tmp 15) rfl RR.out [.string ⟨#[]⟩, .slice none 0 0] rfl rfl (lenIt _ _ _ _) (sizeIt _ _) (it_one _ _) BB.out (Nat.le_refl _) ?_)
    intro w9 R9 B9 H9
    go_wp2_with fail
    exact bodyPost_ret (results_ct rfl _ _ _ w.heap.size [.string ⟨#[]⟩, .slice none 0 0] _ rfl R9.out.range Tryz.underlying77 rfl (sizeIt _ _)) rfl (by exact BAD.out _ _ E.out (by decide) B9.out)
  have d0 : ((e1 : Int) == 0) = false := by simp; omega
  have IE1 := Lib.hid (IE.out.trans (if_neg h0))
  clear IE h0
  by_cases h1 : e1 < X.length ∧ X.getD e1 0 = 47
  · have IE2 := Lib.hid (IE1.out.trans (if_pos h1))
    have hlt : e1 < t.size := by rw [ZH.out]; exact h1.1
    have d1 : decide ((e1 : Int) < (t.size : Int)) = true := by simp; omega
    have dx := IDX.out e1 hlt
    rw [h1.2] at dx
    have e2s := E2S.out hlt
    clear IE1 h1
    go_wp2_with fail
    refine (T2.out w2 hlt).mono ?_
    rintro e w3 ⟨rfl, hb⟩
    have BV := Lib.hid (bthen BW.out hb)
    have RV := Lib.hid (RW.out.below hb)
    clear hb BW RW T2 dx
    have BW := BV; have RW := RV
    clear BV RV
    by_cases h2 : e2 = e1 + 1
    · have d2 : ((e2 : Int) == (e1 : Int) + 1) = true := by simp; omega
      have E := Lib.hid (IE2.out.trans (if_pos h2))
      have BB := Lib.hid BW.out
      have RR := Lib.hid RW.out
      clear IE2 h2
      go_wp2_with (with_reducible refine wpList_storeR rfl 77 (.tmp 2) (.tmp 35) rfl RR.out [.string ⟨#[]⟩, .slice none 0 0] rfl rfl (lenIt _ _ _ _) (sizeIt _ _) (it_one _ _) BB.out (Nat.le_refl _) ?_)
      intro w9 R9 B9 H9
      go_wp2_with fail
      exact bodyPost_ret (results_ct rfl _ _ _ w.heap.size [.string ⟨#[]⟩, .slice none 0 0] _ rfl R9.out.range Tryz.underlying77 rfl (sizeIt _ _)) rfl (by exact BAD.out _ _ E.out (by decide) B9.out)
    · have d2 : ((e2 : Int) == (e1 : Int) + 1) = false := by simp; omega
      have E := Lib.hid (IE2.out.trans (if_neg h2))
      clear IE2 h2
      have HD := Lib.hid (show byteL (t.extract e2 t.size) = X.drop e2 by rw [drop_extract, BT.out])
      have HT := Lib.hid (show t.extract 0 e2 = strOfNums (X.take e2) by rw [← str_byteL (t.extract 0 e2), take_extract, BT.out])
      have i1 : (0 : Int) ≤ (e2 : Int) := by omega
      have i2 : (e2 : Int) ≤ (t.size : Int) := by omega
      have PQ := Lib.hid (fun w => params_any (t.extract e2 t.size) w (by rw [ByteArray.size_extract]; omega) (by rw [HD.out]; exact fun h => HNB.out (List.mem_of_mem_drop h)))
      rw [HD.out] at PQ
      go_wp2_with fail
      refine (PQ.out _).mono ?_
      clear PQ
      intro e0 w6 hq
      have HQ := Lib.hid hq
      clear hq
      obtain ⟨L, hL⟩ : ∃ L, paramsL (X.drop e2) = L := ⟨_, rfl⟩
      rw [hL] at E HQ
      clear hL
      cases L with
      | error q =>
        obtain ⟨z, k⟩ := q
        obtain ⟨rfl, hb, hk⟩ := HQ.out
        have hkn : (k != 0) = true := by simpa using hk
        have E9 := Lib.hid (show R = .error k from E.out)
        have BB := Lib.hid (bthen BW.out hb)
        have RR := Lib.hid (RW.out.below hb)
        clear hb HQ E BW RW
        dsimp only
        go_wp2_with (with_reducible refine wpList_storeR rfl 77 (.tmp 2) (.tmp 46) rfl RR.out [.string ⟨#[]⟩, .slice none 0 0] rfl rfl (lenIt _ _ _ _) (sizeIt _ _) (it_one _ _) BB.out (Nat.le_refl _) ?_)
        intro w9 R9 B9 H9
        go_wp2_with fail
        exact bodyPost_ret (results_ct rfl _ _ _ w.heap.size [.string ⟨#[]⟩, .slice none 0 0] _ rfl R9.out.range Tryz.underlying77 rfl (sizeIt _ _)) rfl (by exact BAD.out _ _ E9.out hk B9.out)
      | ok l =>
        obtain ⟨v, rfl, hv, hl16⟩ := HQ.out
        have E9 := Lib.hid (show R = .ok (X.take e2, l) from E.out)
        have BB := Lib.hid (bthen BW.out hv.bw)
        have RR := Lib.hid (RW.out.below hv.bw)
        obtain ⟨A, c, rfl, hnc, hR⟩ := pms_rds hv
        have HR := Lib.hid hR
        have HN := Lib.hid (fun b o s (he : A = some ⟨b, o, s⟩) => show b ≠ w.heap.size ∧ w.heap.size ≤ b from by
          subst he
          have h1 := own_block hv.o b rfl
          have h2 := RW.out.lt
          omega)
        clear HQ E BW RW hR hv
        go_wp2_with (with_reducible refine wpList_storeR rfl 77 (.tmp 2) (.tmp 52) rfl RR.out [.string (t.extract 0 e2), .slice A l.length c] rfl rfl (lenIt _ _ _ _) (sizeIt _ _) (it_one _ _) BB.out (Nat.le_refl _) ?_)
        intro w9 R9 B9 H9
        go_wp2_with fail
        exact bodyPost_ret (results_ct rfl _ _ _ w.heap.size [.string (t.extract 0 e2), .slice A l.length c] _ rfl R9.out.range Tryz.underlying77 rfl (sizeIt _ _)) rfl (by rw [HT.out]; exact GOOD.out _ _ _ _ _ E9.out B9.out (HR.out.heapR (fun b o s he => (HN.out b o s he).1) H9.out.1 H9.out.2) hl16 hnc (fun b o s he => (HN.out b o s he).2))
  · have d1 : decide ((e1 : Int) < (t.size : Int)) = false ∨ (decide ((e1 : Int) < (t.size : Int)) = true ∧ e1 < t.size ∧ (X.getD e1 0 == 47) = false) := by
      by_cases hl : e1 < t.size
      · exact .inr ⟨by simp; omega, hl, by rw [beq_eq_false_iff_ne]; exact fun h => h1 ⟨by rw [← ZH.out]; exact hl, h⟩⟩
      · exact .inl (by simp; omega)
    have E := Lib.hid (IE1.out.trans (if_neg h1))
    clear IE1 h1
    rcases d1 with d1 | ⟨d1, hlt, dq⟩
    · clear IDX
      have d1' : decide (e1 < t.size) = false := by simp at d1 ⊢; omega
      have HD := Lib.hid (show byteL (t.extract e1 t.size) = X.drop e1 by rw [drop_extract, BT.out])
      have HT := Lib.hid (show t.extract 0 e1 = strOfNums (X.take e1) by rw [← str_byteL (t.extract 0 e1), take_extract, BT.out])
      have i1 : (0 : Int) ≤ (e1 : Int) := by omega
      have i2 : (e1 : Int) ≤ (t.size : Int) := by omega
      have PQ := Lib.hid (fun w => params_any (t.extract e1 t.size) w (by rw [ByteArray.size_extract]; omega) (by rw [HD.out]; exact fun h => HNB.out (List.mem_of_mem_drop h)))
      rw [HD.out] at PQ
      go_wp2_with fail
      refine (PQ.out _).mono ?_
      clear PQ
      intro e0 w6 hq
      have HQ := Lib.hid hq
      clear hq
      obtain ⟨L, hL⟩ : ∃ L, paramsL (X.drop e1) = L := ⟨_, rfl⟩
      rw [hL] at E HQ
      clear hL
      cases L with
      | error q =>
        obtain ⟨z, k⟩ := q
        obtain ⟨rfl, hb, hk⟩ := HQ.out
        have hkn : (k != 0) = true := by simpa using hk
        have E9 := Lib.hid (show R = .error k from E.out)
        have BB := Lib.hid (bthen BW.out hb)
        have RR := Lib.hid (RW.out.below hb)
        clear hb HQ E BW RW
        dsimp only
        go_wp2_with (with_reducible refine wpList_storeR rfl 77 (.tmp 2) (.tmp 46) rfl RR.out [.string ⟨#[]⟩, .slice none 0 0] rfl rfl (lenIt _ _ _ _) (sizeIt _ _) (it_one _ _) BB.out (Nat.le_refl _) ?_)
        intro w9 R9 B9 H9
        go_wp2_with fail
        exact bodyPost_ret (results_ct rfl _ _ _ w.heap.size [.string ⟨#[]⟩, .slice none 0 0] _ rfl R9.out.range Tryz.underlying77 rfl (sizeIt _ _)) rfl (by exact BAD.out _ _ E9.out hk B9.out)
      | ok l =>
        obtain ⟨v, rfl, hv, hl16⟩ := HQ.out
        have E9 := Lib.hid (show R = .ok (X.take e1, l) from E.out)
        have BB := Lib.hid (bthen BW.out hv.bw)
        have RR := Lib.hid (RW.out.below hv.bw)
        obtain ⟨A, c, rfl, hnc, hR⟩ := pms_rds hv
        have HR := Lib.hid hR
        have HN := Lib.hid (fun b o s (he : A = some ⟨b, o, s⟩) => show b ≠ w.heap.size ∧ w.heap.size ≤ b from by
          subst he
          have h1 := own_block hv.o b rfl
          have h2 := RW.out.lt
          omega)
        clear HQ E BW RW hR hv
        go_wp2_with (with_reducible refine wpList_storeR rfl 77 (.tmp 2) (.tmp 52) rfl RR.out [.string (t.extract 0 e1), .slice A l.length c] rfl rfl (lenIt _ _ _ _) (sizeIt _ _) (it_one _ _) BB.out (Nat.le_refl _) ?_)
        intro w9 R9 B9 H9
        go_wp2_with fail
        exact bodyPost_ret (results_ct rfl _ _ _ w.heap.size [.string (t.extract 0 e1), .slice A l.length c] _ rfl R9.out.range Tryz.underlying77 rfl (sizeIt _ _)) rfl (by rw [HT.out]; exact GOOD.out _ _ _ _ _ E9.out B9.out (HR.out.heapR (fun b o s he => (HN.out b o s he).1) H9.out.1 H9.out.2) hl16 hnc (fun b o s he => (HN.out b o s he).2))
    · have dx := IDX.out e1 hlt
      generalize X.getD e1 0 = x at *
      have HD := Lib.hid (show byteL (t.extract e1 t.size) = X.drop e1 by rw [drop_extract, BT.out])
      have HT := Lib.hid (show t.extract 0 e1 = strOfNums (X.take e1) by rw [← str_byteL (t.extract 0 e1), take_extract, BT.out])
      have i1 : (0 : Int) ≤ (e1 : Int) := by omega
      have i2 : (e1 : Int) ≤ (t.size : Int) := by omega
      have PQ := Lib.hid (fun w => params_any (t.extract e1 t.size) w (by rw [ByteArray.size_extract]; omega) (by rw [HD.out]; exact fun h => HNB.out (List.mem_of_mem_drop h)))
      rw [HD.out] at PQ
      go_wp2_with fail
      refine (PQ.out _).mono ?_
      clear PQ
      intro e0 w6 hq
      have HQ := Lib.hid hq
      clear hq
      obtain ⟨L, hL⟩ : ∃ L, paramsL (X.drop e1) = L := ⟨_, rfl⟩
      rw [hL] at E HQ
      clear hL
      cases L with
      | error q =>
        obtain ⟨z, k⟩ := q
        obtain ⟨rfl, hb, hk⟩ := HQ.out
        have hkn : (k != 0) = true := by simpa using hk
        have E9 := Lib.hid (show R = .error k from E.out)
        have BB := Lib.hid (bthen BW.out hb)
        have RR := Lib.hid (RW.out.below hb)
        clear hb HQ E BW RW
        dsimp only
        go_wp2_with (with_reducible refine wpList_storeR rfl 77 (.tmp 2) (.tmp 46) rfl RR.out [.string ⟨#[]⟩, .slice none 0 0] rfl rfl (lenIt _ _ _ _) (sizeIt _ _) (it_one _ _) BB.out (Nat.le_refl _) ?_)
        intro w9 R9 B9 H9
        go_wp2_with fail
        exact bodyPost_ret (results_ct rfl _ _ _ w.heap.size [.string ⟨#[]⟩, .slice none 0 0] _ rfl R9.out.range Tryz.underlying77 rfl (sizeIt _ _)) rfl (by exact BAD.out _ _ E9.out hk B9.out)
      | ok l =>
        obtain ⟨v, rfl, hv, hl16⟩ := HQ.out
        have E9 := Lib.hid (show R = .ok (X.take e1, l) from E.out)
        have BB := Lib.hid (bthen BW.out hv.bw)
        have RR := Lib.hid (RW.out.below hv.bw)
        obtain ⟨A, c, rfl, hnc, hR⟩ := pms_rds hv
        have HR := Lib.hid hR
        have HN := Lib.hid (fun b o s (he : A = some ⟨b, o, s⟩) => show b ≠ w.heap.size ∧ w.heap.size ≤ b from by
          subst he
          have h1 := own_block hv.o b rfl
          have h2 := RW.out.lt
          omega)
        clear HQ E BW RW hR hv
        go_wp2_with (with_reducible refine wpList_storeR rfl 77 (.tmp 2) (.tmp 52) rfl RR.out [.string (t.extract 0 e1), .slice A l.length c] rfl rfl (lenIt _ _ _ _) (sizeIt _ _) (it_one _ _) BB.out (Nat.le_refl _) ?_)
        intro w9 R9 B9 H9
        go_wp2_with fail
        exact bodyPost_ret (results_ct rfl _ _ _ w.heap.size [.string (t.extract 0 e1), .slice A l.length c] _ rfl R9.out.range Tryz.underlying77 rfl (sizeIt _ _)) rfl (by rw [HT.out]; exact GOOD.out _ _ _ _ _ E9.out B9.out (HR.out.heapR (fun b o s he => (HN.out b o s he).1) H9.out.1 H9.out.2) hl16 hnc (fun b o s he => (HN.out b o s he).2))
end Go.Proofs.YtcnkjgjimcddiaaGreatDoor
namespace Go.Proofs.YtcnkjgjimcddiaaGreatDoor
open Go.RowKit

def gotV : Option (List Int) → Value
  | none => .tuple #[.string ⟨#[]⟩, .bool false]
  | some v => .tuple #[.string (strOfNums v), .bool true]
def missG (l : List Pm) (nm : List Int) (k : Nat) : Prop := ∀ j p, j < k → l[j]? = some p → (lowS p.n == lowS nm) = false
theorem getPm_none {l : List Pm} {nm : List Int} (h : missG l nm l.length) : getPm l nm = none := by
  unfold getPm
  rw [Option.map_eq_none_iff, List.find?_eq_none]
  intro p hp
  obtain ⟨j, hj⟩ := List.mem_iff_getElem?.1 hp
  have := h j p (List.getElem?_eq_some_iff.1 hj).1 hj
  simpa using this
theorem getPm_some : ∀ {l : List Pm} {nm : List Int} {k : Nat} {p : Pm}, missG l nm k → l[k]? = some p → (lowS p.n == lowS nm) = true → getPm l nm = some p.v
  | [], _, _, _, _, hp, _ => by cases hp
  | x :: l, nm, 0, p, _, hp, hq => by
    obtain rfl : x = p := by simpa using hp
    unfold getPm
    rw [List.find?_cons, hq]
    rfl
  | x :: l, nm, k + 1, p, h, hp, hq => by
    have h0 := h 0 x (Nat.succ_pos k) rfl
    have ih := getPm_some (l := l) (nm := nm) (k := k) (p := p) (fun j q hj hq => h (j + 1) q (by omega) (by simpa using hq)) (by simpa using hp) hq
    unfold getPm at ih ⊢
    rw [List.find?_cons, h0]
    exact ih
theorem missG_succ {l : List Pm} {nm : List Int} {k : Nat} {p : Pm} (h : missG l nm k) (hp : l[k]? = some p) (hq : (lowS p.n == lowS nm) = false) : missG l nm (k + 1) := fun j q hj hqj => by
  rcases Nat.lt_or_ge j k with h1 | h1
  · exact h j q h1 hqj
  · obtain rfl : j = k := by omega
    obtain rfl := Option.some.inj (hp.symm.trans hqj)
    exact hq
set_option maxRecDepth 100000 in
set_option maxHeartbeats 1000000 in
theorem adget_any (A : Option Addr) (n c : Nat) (l : List Pm) (nm : List Int) (w : World) (hA : Rds w w.heap.size A (pms l)) (hn : l.length = n) (hN : n ≤ 16000000) (hl : ∀ p ∈ l, By p.n ∧ p.n.length ≤ 4000000) (hm : By nm) (hm2 : nm.length ≤ 4000000) :
    Calls Tryz.prog 34 #[.slice A n c, .string (strOfNums nm)] w fun e w' => e = .returned (gotV (getPm l nm)) ∧ Below w.heap.size w w' := by
  have HA := Lib.hid hA; have HN := Lib.hid hn; have HL := Lib.hid hl; have HM := Lib.hid hm
  have LW := Lib.hid (fun w => adlower_any (strOfNums nm) w (by rw [num_size]; exact hm2))
  rw [byteL_str hm] at LW
  have BL := Lib.hid (lowS_by hm)
  clear hA hn hl hm hm2
  have ES := Lib.hid (fun k p (h1 : missG l nm k) h2 h3 => getPm_some (l := l) (nm := nm) (k := k) (p := p) h1 h2 h3)
  have EN := Lib.hid (fun h => getPm_none (l := l) (nm := nm) h)
  generalize getPm l nm = R at *
  go_enter Tryz.func34, Tryz.ntmps34
  go_wp2_with fail
  refine (LW.out w).mono ?_
  rintro e w1 ⟨rfl, hb⟩
  have B1 := Lib.hid hb
  clear hb LW
  go_wp2_with fail
  go_loopw [12] (fun v wr => ∃ k : Nat, k ≤ n ∧ v = .int .i64 k ∧ Hid (missG l nm k) ∧ Hid (Below w.heap.size w wr)) (fun v _ => n - (intOf v).toNat)
  case atStart => exact ⟨0, Nat.zero_le _, rfl, Lib.hid (fun _ _ h => absurd h (Nat.not_lt_zero _)), B1⟩
  case round =>
    clear B1
    obtain ⟨k, hk, rfl, HK, BR⟩ := hrel
    by_cases hlt : k < n
    · have hd : decide (k < n) = true := by simp [hlt]
      have hd2 : decide ((k : Int) < (n : Int)) = true := by simp; omega
      obtain ⟨p, hp⟩ : ∃ p, l[k]? = some p := ⟨_, List.getElem?_eq_getElem (by rw [HN.out]; exact hlt)⟩
      obtain ⟨x1, o1, rfl, hx1, hc1⟩ := HA.out (by rw [pms_len, HN.out]; omega)
      have G1 := Lib.hid (show wr.rangeAt x1 (o1 + k * 3) (pmC p) from fun j v hv => (BR.out.cell (p := ⟨x1, _, none⟩) hx1).trans (Rds.range2 hc1 (k * 3) _ (pms_at hp) j v hv))
      obtain ⟨pb, pl⟩ := HL.out p (List.mem_of_getElem? hp)
      have KS := Lib.hid (fun h => missG_succ HK.out hp h)
      have KF := Lib.hid (fun h => ES.out k p HK.out hp h)
      have LP := Lib.hid (fun w => adlower_any (strOfNums p.n) w (by rw [num_size]; exact pl))
      rw [byteL_str pb] at LP
      have QE := Lib.hid (getD_beq (lowS_by pb) BL.out)
      clear hc1 hp HK pb pl
      obtain ⟨pn, pv, ph⟩ := p
      dsimp only at LP KS KF QE
      have G2 := Lib.hid (show wr.rangeAt x1 (o1 + k * 3) [.string (strOfNums pn), .string (strOfNums pv), .bool ph] from G1.out)
      have RP := Lib.hid (Row.new wr 84 [.string (strOfNums pn), .string (strOfNums pv), .bool ph])
      have BN := Lib.hid (BR.out.alloc BR.out.size (.cells #[.string (strOfNums pn), .string (strOfNums pv), .bool ph] 84))
      clear G1
      go_upto_region 5 with (with_reducible refine wpList_load_mid rfl 84 (.tmp 14) rfl x1 (o1 + k * 3) rfl [.string (strOfNums pn), .string (strOfNums pv), .bool ph] _ G2.out Tryz.underlying84 rfl (sizePm _ _ _) ?_)
      generalize wr.alloc (.cells #[.string (strOfNums pn), .string (strOfNums pv), .bool ph] 84) = w2 at *
      have k0 := RP.out.cell 0
      simp only [List.getElem?_cons_succ, List.getElem?_cons_zero] at k0
      generalize wr.heap.size = pb at *
      go_wp2_with fail
      refine (LP.out w2).mono ?_
      rintro e w3 ⟨rfl, hb⟩
      have B3 := Lib.hid (bthen BN.out hb)
      have k1 := (RP.out.below hb).cell 1
      simp only [List.getElem?_cons_succ, List.getElem?_cons_zero] at k1
      clear hb k0 RP BN G2 LP BR
      cases hq : (lowS pn == lowS nm) with
      | true =>
        have E := Lib.hid (KF.out hq)
        have q2 := QE.out.trans hq
        clear KS KF hq
        go_wp2_with fail
        go_ret2
        exact ⟨by rw [E.out]; rfl, B3.out⟩
      | false =>
        have K2 := Lib.hid (KS.out hq)
        have q2 := QE.out.trans hq
        clear KS KF hq k1
        go_wp2_with fail
        go_roundw
        case rel => exact ⟨k + 1, by omega, by go_num, K2, B3⟩
        case measure => simp [intOf]; omega
    · obtain rfl : k = n := by omega
      have E := Lib.hid (EN.out (show missG l nm l.length by rw [HN.out]; exact HK.out))
      go_wp2_with fail
      go_ret2
      exact ⟨by rw [E.out]; rfl, BR.out⟩
def KDV : List Value := KINDS.flatMap fun q => [.string (strOfNums q.1), .int .i64 q.2]
/-- The kinds lie where the program laid them. -/
def KD (w : World) : Prop := 2 < w.heap.size ∧ w.rangeAt 2 0 KDV
theorem KD.below {w w1 : World} (h : KD w) (hb : Below w.heap.size w w1) : KD w1 := ⟨Nat.lt_of_lt_of_le h.1 hb.size, fun j v hv => (hb.cell (p := ⟨2, 0 + j, none⟩) h.1).trans (h.2 j v hv)⟩
theorem KD.at {w : World} (h : KD w) {k : Nat} (hk : k < 31) : w.cell? ⟨2, k * 2, none⟩ = some (.string (strOfNums (KINDS.getD k ([], 0)).1)) ∧ w.cell? ⟨2, k * 2 + 1, none⟩ = some (.int .i64 (KINDS.getD k ([], 0)).2) := by
  have hp : KINDS[k]? = some (KINDS.getD k ([], 0)) := by
    rw [List.getD_eq_getElem?_getD, List.getElem?_eq_getElem (show k < KINDS.length from hk)]; rfl
  have h1 := flat_at (fun q : List Int × Int => [Value.string (strOfNums q.1), .int .i64 q.2]) 2 (fun _ => rfl) KINDS k 0 _ hp (by decide)
  have h2 := flat_at (fun q : List Int × Int => [Value.string (strOfNums q.1), .int .i64 q.2]) 2 (fun _ => rfl) KINDS k 1 _ hp (by decide)
  have e1 := h.2 (k * 2) _ h1
  have e2 := h.2 (k * 2 + 1) _ h2
  rw [Nat.zero_add] at e1 e2
  exact ⟨e1, e2⟩
theorem kinds_by {k : Nat} (hk : k < 31) : By (KINDS.getD k ([], 0)).1 := by
  have h1 : KINDS.getD k ([], 0) ∈ KINDS := by
    rw [List.getD_eq_getElem?_getD, List.getElem?_eq_getElem (show k < KINDS.length from hk)]
    exact List.getElem_mem _
  exact (show ∀ q ∈ KINDS, By q.1 by unfold By; decide) _ h1
theorem kind_hit {c : List Int} {k : Nat} (hk : k < 31) (hn : ∀ j, j < k → ((KINDS.getD j ([], 0)).1 == c) = false) (h : ((KINDS.getD k ([], 0)).1 == c) = true) : kindL c = (KINDS.getD k ([], 0)).2 := by
  unfold kindL
  rw [find_hit (d := ([], 0)) (show k < KINDS.length from hk) hn h]
  rfl
theorem kind_miss {c : List Int} (hn : ∀ j, j < 31 → ((KINDS.getD j ([], 0)).1 == c) = false) : kindL c = 0 := by
  unfold kindL
  rw [find_miss (l := KINDS) (d := ([], 0)) (fun j hj => hn j (show j < 31 from hj))]
  rfl
set_option maxRecDepth 100000 in
theorem kindof_any (c : List Int) (w : World) (hc : By c) (hK : KD w) : Calls Tryz.prog 103 #[.string (strOfNums c)] w fun e w' => e = .returned (.int .i64 (kindL c)) ∧ w = w' := by
  have HK := Lib.hid hK; have HC := Lib.hid hc
  have EH := Lib.hid (fun k h1 h2 h3 => kind_hit (c := c) (k := k) h1 h2 h3)
  have EM := Lib.hid (fun h => kind_miss (c := c) h)
  generalize kindL c = R at *
  clear hK hc
  go_enter Tryz.func103, Tryz.ntmps103
  go_wp2_with fail
  go_loopw [4] (fun v wr => ∃ k : Nat, k ≤ 31 ∧ v = .int .i64 k ∧ Hid (∀ j, j < k → ((KINDS.getD j ([], 0)).1 == c) = false) ∧ w = wr) (fun v _ => 31 - (intOf v).toNat)
  case atStart => exact ⟨0, Nat.zero_le _, rfl, Lib.hid (fun _ h => absurd h (Nat.not_lt_zero _)), rfl⟩
  case round =>
    obtain ⟨k, hk, rfl, HN, rfl⟩ := hrel
    by_cases hlt : k < 31
    · have hd : decide ((k : Int) < 31) = true := by simp; omega
      have hd2 : decide (k < 31) = true := by simp [hlt]
      obtain ⟨c0, c1⟩ := HK.out.at hlt
      have QE := Lib.hid (getD_beq (kinds_by hlt) HC.out)
      have HH := Lib.hid (fun h => EH.out k hlt HN.out h)
      have HX := Lib.hid (fun (h : ((KINDS.getD k ([], 0)).1 == c) = false) (j : Nat) (hj : j < k + 1) => show ((KINDS.getD j ([], 0)).1 == c) = false by
        rcases (show j < k ∨ j = k by omega) with h1 | rfl
        · exact HN.out j h1
        · exact h)
      generalize KINDS.getD k ([], 0) = q at *
      obtain ⟨qn, qk⟩ := q
      dsimp only at c0 c1 QE HH HX
      cases hq : (qn == c) with
      | true =>
        have E := Lib.hid (HH.out hq)
        have q2 := QE.out.trans hq
        clear HH HX hq
        go_wp2_with fail
        go_ret
        exact ⟨by rw [E.out]; rfl, rfl⟩
      | false =>
        have N2 := Lib.hid (HX.out hq)
        have q2 := QE.out.trans hq
        clear HH HX hq
        go_wp2_with fail
        go_roundw
        case rel => first | exact ⟨k + 1, by omega, by go_num, N2, trivial⟩ | exact ⟨k + 1, by omega, by go_num, N2, rfl⟩
        case measure => simp [intOf]; omega
    · obtain rfl : k = 31 := by omega
      have E := Lib.hid (EM.out HN.out)
      rw [show ((31 : Nat) : Int) = (31 : Int) from rfl]
      go_wp2_with fail
      go_ret
      exact ⟨by rw [E.out]; rfl, rfl⟩
theorem lit_beq {c : List Int} (hc : By c) (u : List UInt8) : ((strOfNums c).toList == u) = (bl u == c) := by
  rw [Bool.eq_iff_iff, beq_iff_eq, beq_iff_eq, ByteArray.toList_eq]
  constructor
  · intro h
    rw [← byteL_str hc, byteL_bl, h]
  · rintro rfl
    apply bl_inj
    rw [bl_strOfNums (bl_by u)]
set_option maxRecDepth 100000 in
set_option maxHeartbeats 1000000 in
theorem manyc_any (c : List Int) (w : World) (hc : By c) (hK : KD w) : Calls Tryz.prog 76 #[.string (strOfNums c)] w fun e w' => e = .returned (.bool (manyC c)) ∧ w = w' := by
  have KQ := Lib.hid (kindof_any c w hc hK)
  have Q0 := Lib.hid (lit_beq hc [67, 111, 110, 116, 97, 99, 116])
  have Q1 := Lib.hid (lit_beq hc [80, 97, 116, 104])
  have Q2 := Lib.hid (lit_beq hc [82, 101, 99, 111, 114, 100, 45, 82, 111, 117, 116, 101])
  have Q3 := Lib.hid (lit_beq hc [82, 111, 117, 116, 101])
  have Q4 := Lib.hid (lit_beq hc [83, 101, 114, 118, 105, 99, 101, 45, 82, 111, 117, 116, 101])
  have EV := Lib.hid (show manyC c = (((([67, 111, 110, 116, 97, 99, 116] : List Int) == c) || ((([80, 97, 116, 104] : List Int) == c) || ((([82, 101, 99, 111, 114, 100, 45, 82, 111, 117, 116, 101] : List Int) == c) || ((([82, 111, 117, 116, 101] : List Int) == c) || (([83, 101, 114, 118, 105, 99, 101, 45, 82, 111, 117, 116, 101] : List Int) == c))))) || (kindL c == 2 || kindL c == 7)) by
    unfold manyC MANY5
    simp only [List.any_cons, List.any_nil, Bool.or_false])
  generalize manyC c = R at *
  generalize kindL c = K at *
  clear hK hc
  cases h0 : (([67, 111, 110, 116, 97, 99, 116] : List Int) == c) with
  | true =>
    have E := Lib.hid (show R = true by rw [EV.out, h0]; simp only [Bool.or_true, Bool.true_or])
    have q0 := Q0.out.trans h0
    clear EV
    go_enter Tryz.func76, Tryz.ntmps76
    go_wp2_with fail
    go_ret
    exact ⟨ret_bool E.out.symm, rfl⟩
  | false =>
  have q0 := Q0.out.trans h0
  cases h1 : (([80, 97, 116, 104] : List Int) == c) with
  | true =>
    have E := Lib.hid (show R = true by rw [EV.out, h1]; simp only [Bool.or_true, Bool.true_or])
    have q1 := Q1.out.trans h1
    clear EV
    go_enter Tryz.func76, Tryz.ntmps76
    go_wp2_with fail
    go_ret
    exact ⟨ret_bool E.out.symm, rfl⟩
  | false =>
  have q1 := Q1.out.trans h1
  cases h2' : (([82, 101, 99, 111, 114, 100, 45, 82, 111, 117, 116, 101] : List Int) == c) with
  | true =>
    have E := Lib.hid (show R = true by rw [EV.out, h2']; simp only [Bool.or_true, Bool.true_or])
    have q2 := Q2.out.trans h2'
    clear EV
    go_enter Tryz.func76, Tryz.ntmps76
    go_wp2_with fail
    go_ret
    exact ⟨ret_bool E.out.symm, rfl⟩
  | false =>
  have q2 := Q2.out.trans h2'
  cases h3 : (([82, 111, 117, 116, 101] : List Int) == c) with
  | true =>
    have E := Lib.hid (show R = true by rw [EV.out, h3]; simp only [Bool.or_true, Bool.true_or])
    have q3 := Q3.out.trans h3
    clear EV
    go_enter Tryz.func76, Tryz.ntmps76
    go_wp2_with fail
    go_ret
    exact ⟨ret_bool E.out.symm, rfl⟩
  | false =>
  have q3 := Q3.out.trans h3
  cases h4 : (([83, 101, 114, 118, 105, 99, 101, 45, 82, 111, 117, 116, 101] : List Int) == c) with
  | true =>
    have E := Lib.hid (show R = true by rw [EV.out, h4]; simp only [Bool.or_true, Bool.true_or])
    have q4 := Q4.out.trans h4
    clear EV
    go_enter Tryz.func76, Tryz.ntmps76
    go_wp2_with fail
    go_ret
    exact ⟨ret_bool E.out.symm, rfl⟩
  | false =>
  have q4 := Q4.out.trans h4
  have e2 : (K == 2) = decide (K = 2) := by rw [Bool.eq_iff_iff]; simp
  cases h2 : (K == 2) with
  | true =>
    have E := Lib.hid (show R = true by rw [EV.out, h2]; simp only [Bool.or_true, Bool.true_or])
    clear EV e2
    go_enter Tryz.func76, Tryz.ntmps76
    go_wp2_with fail
    refine KQ.out.mono ?_
    rintro e w' ⟨rfl, rfl⟩
    go_wp2_with fail
    go_ret
    exact ⟨ret_bool E.out.symm, rfl⟩
  | false =>
    have E := Lib.hid (show R = (K == 7) by rw [EV.out, h2, h0, h1, h2', h3, h4]; simp only [Bool.false_or, Bool.or_false])
    clear EV e2
    go_enter Tryz.func76, Tryz.ntmps76
    go_wp2_with fail
    refine KQ.out.mono ?_
    rintro e w' ⟨rfl, rfl⟩
    go_wp2_with fail
    go_ret
    exact ⟨ret_bool E.out.symm, rfl⟩
set_option maxRecDepth 100000 in
theorem manyn_any (s : ByteArray) (w : World) (hs : s.size ≤ 4000000) (hS : SC w) (hK : KD w) : Calls Tryz.prog 59 #[.string s] w fun e w' => e = .returned (.bool (manyN (byteL s))) ∧ Below w.heap.size w w' := by
  have CN := Lib.hid (nmcanon_any s w hs hS)
  have HB := Lib.hid (fun x (h : canonL (byteL s) = some x) => canonL_by' (byteL_by s) h)
  have EV := Lib.hid (show manyN (byteL s) = match canonL (byteL s) with
    | some c => manyC c
    | none => false from rfl)
  have HK := Lib.hid hK
  generalize manyN (byteL s) = R at *
  generalize canonL (byteL s) = C at *
  clear hS hK
  go_enter Tryz.func59, Tryz.ntmps59
  go_wp2_with fail
  refine CN.out.mono ?_
  rintro e w1 ⟨rfl, hb⟩
  have B1 := Lib.hid hb
  have K1 := Lib.hid (HK.out.below hb)
  clear hb CN
  cases C with
  | none =>
    have E := Lib.hid (show R = false from EV.out)
    rw [show canonV none = .tuple #[.string ⟨#[]⟩, .int .u8 5] from rfl]
    go_wp2_with fail
    go_ret
    exact ⟨ret_bool E.out.symm, B1.out⟩
  | some c =>
    have E := Lib.hid (show R = manyC c from EV.out)
    rw [show canonV (some c) = .tuple #[.string (strOfNums c), .int .u8 0] from rfl]
    have MQ := Lib.hid (manyc_any c w1 (HB.out c rfl) K1.out)
    go_wp2_with fail
    refine MQ.out.mono ?_
    rintro e w' ⟨rfl, rfl⟩
    go_wp2_with fail
    go_ret
    exact ⟨ret_bool E.out.symm, B1.out⟩
end Go.Proofs.YtcnkjgjimcddiaaGreatDoor
namespace Go.Proofs.YtcnkjgjimcddiaaGreatDoor
open Go.RowKit

def strs (l : List (List Int)) : List Value := l.map fun t => .string (strOfNums t)
theorem strs_len (l : List (List Int)) : (strs l).length = l.length := by simp [strs]
theorem strs_snoc (l : List (List Int)) (t : List Int) : strs (l ++ [t]) = strs l ++ [.string (strOfNums t)] := by simp [strs]
theorem strs_app (l m : List (List Int)) : strs (l ++ m) = strs l ++ strs m := by simp [strs]
theorem VX.base {T : TypeId} {sz : Nat} {w W wr : World} {v : Value} {n : Nat} {cs : List Value} (H : VX T sz W v n cs wr) (hb : Below w.heap.size w W) : VX T sz w v n cs wr := by
  refine ⟨⟨H.o.1, ?_⟩, bthen hb H.bw⟩
  rcases H.o.2 with h0 | ⟨g, cap, cur, h1, h2, h3⟩
  · exact .inl h0
  · exact .inr ⟨g, cap, cur, h1, Nat.le_trans hb.size h2, h3⟩
theorem VX.new' (w : World) (T : TypeId) (n : Nat) (cs : List Value) (hn : cs.length = n) (hb : n ≤ 16777216) : VX T 1 w (.slice (some ⟨w.heap.size, 0, none⟩) n n) n cs (w.alloc (.cells cs.toArray T)) :=
  ⟨⟨by omega, .inr ⟨w.heap.size, n, cs.toArray, rfl, Nat.le_refl _, Row.new w T cs, Nat.le_refl _, by unfold maxLen; omega, by simp [hn], by rw [Nat.mul_one, ← hn]; simp⟩⟩, (Below.refl _ _).alloc (Nat.le_refl _) _⟩
abbrev SXL (w : World) (v : Value) (l : List (List Int)) (wr : World) : Prop := VX 9 1 w v l.length (strs l) wr
theorem wpList_pushL {w wr : World} {ops : Array Oper} {rest : List Oper} {o : Oper} {a : Act} {Q : Exit → Act → World → Prop} (hgd : o.guard = none) (s x : Operand)
    (ho : o.op = .call { callee := .builtin .append, args := #[s, x], argTypes := #[86, 86] }) (v : Value) (ps : List (List Int)) (hs : a.eval s = v) (H : SXL w v ps wr) (p : List Int) (hx : a.eval x = .slice (some ⟨wr.heap.size, 0, none⟩) 1 1) (hb : ps.length + 1 ≤ 16777216)
    (h : ∀ v' w', Hid (SXL w v' (ps ++ [p]) w') → wpList Tryz.prog ops Q rest (a.put o.dst v') w') : wpList Tryz.prog ops Q (o :: rest) a (wr.alloc (.cells #[.string (strOfNums p)] 9)) :=
  wpList_pushT hgd s x ho Tryz.underlying86 infoS rfl (by omega) (by omega) v ps.length (strs ps) hs H [.string (strOfNums p)] rfl (fun u hu => by
    simp at hu
    rcases hu with rfl; rfl) hx hb fun v' w' h1 => h v' w' (Lib.hid (by
      have := h1.out
      unfold SXL
      rw [strs_snoc, List.length_append]
      exact this))
def ListR (w : World) (R : Except Int (List (List Int))) (e : Ending) (w' : World) : Prop := match R with
  | .error k => e = .returned (.tuple #[.slice none 0 0, .int .u8 k]) ∧ Below w.heap.size w w' ∧ k ≠ 0
  | .ok l => ∃ v, e = .returned (.tuple #[v, .int .u8 0]) ∧ SXL w v l w'
theorem ListR.bad {w w' : World} {R : Except Int (List (List Int))} {k : Int} (h : R = .error k) (hk : k ≠ 0) (hb : Below w.heap.size w w') : ListR w R (.returned (.tuple #[.slice none 0 0, .int .u8 k])) w' := by
  subst h; exact ⟨rfl, hb, hk⟩
theorem ListR.good {w w' : World} {R : Except Int (List (List Int))} {l : List (List Int)} {v : Value} (h : R = .ok l) (hb : SXL w v l w') : ListR w R (.returned (.tuple #[v, .int .u8 0])) w' := by
  subst h; exact ⟨v, rfl, hb⟩
theorem listL_err {v : List Int} {S : List (Nat × List Int) × Nat × Int} (h : splitL v 44 = S) (h2 : S.2.2 ≠ 0) : listL v = .error S.2.2 := by
  subst h; unfold listL; rw [if_pos h2]
theorem listL_bad {v : List Int} {S : List (Nat × List Int) × Nat × Int} (h : splitL v 44 = S) (h2 : S.2.2 = 0) (h3 : (S.1.map (·.2)).all (fun p => !p.isEmpty) = false) : listL v = .error 5 := by
  subst h; unfold listL; rw [if_neg (fun h => h h2), h3]; rfl
theorem listL_ok {v : List Int} {S : List (Nat × List Int) × Nat × Int} (h : splitL v 44 = S) (h2 : S.2.2 = 0) (h3 : (S.1.map (·.2)).all (fun p => !p.isEmpty) = true) : listL v = .ok (S.1.map (·.2)) := by
  subst h; unfold listL; rw [if_neg (fun h => h h2), h3]; rfl
theorem all_at_no {ps : List (Nat × List Int)} {k : Nat} {p : Nat × List Int} (h : ps[k]? = some p) (hp : p.2.isEmpty = true) : (ps.map (·.2)).all (fun p => !p.isEmpty) = false := by
  rw [Bool.eq_false_iff]
  intro hc
  rw [List.all_eq_true] at hc
  have := hc p.2 (List.mem_map.2 ⟨p, List.mem_of_getElem? h, rfl⟩)
  rw [hp] at this
  cases this
theorem take_succ_at {α : Type} {l : List α} {k : Nat} {p : α} (h : l[k]? = some p) : l.take (k + 1) = l.take k ++ [p] := by
  obtain ⟨h1, h2⟩ := List.getElem?_eq_some_iff.1 h
  rw [List.take_add_one, h]
  rfl
theorem pcs_at2 {ps : List (Nat × List Int)} {k : Nat} {p : Nat × List Int} (h : ps[k]? = some p) : ∀ j u, [Value.int .i64 (p.1 : Int), .string (strOfNums p.2)][j]? = some u → (pcs ps)[k * 2 + j]? = some u := fun j u hu => by
  have hj : j < 2 := (List.getElem?_eq_some_iff.1 hu).1
  rw [← hu]
  exact flat_at (fun p : Nat × List Int => [Value.int .i64 (p.1 : Int), .string (strOfNums p.2)]) 2 (fun _ => rfl) ps k j p h hj
theorem pcs_len2 (ps : List (Nat × List Int)) : (pcs ps).length = ps.length * 2 := by
  unfold pcs
  rw [List.length_flatMap, show (ps.map fun a => [Value.int .i64 (a.1 : Int), .string (strOfNums a.2)].length) = ps.map (fun _ => 2) from List.map_congr_left fun _ _ => rfl]
  simp [List.map_const', Nat.mul_comm]
theorem sizePc (a b : Value) : (Tryz.prog.info? 150).map (·.size) = some [a, b].length := show (Tryz.prog.info? 150).map (·.size) = some 2 by kernel_rfl
def LIR (w : World) (W : World) (ps : List (Nat × List Int)) (n : Nat) (v7 v : Value) (wr : World) : Prop := ∃ (k : Nat) (x : Value), x = v7 ∧ k ≤ n ∧ v = .int .i64 k ∧ Hid (SXL W x ((ps.map (·.2)).take k) wr) ∧ Hid (∀ j p, j < k → ps[j]? = some p → p.2.isEmpty = false)
set_option maxRecDepth 100000 in
set_option maxHeartbeats 1000000 in
theorem list_any (s : ByteArray) (w : World) (hs : s.size ≤ 4000000) : Calls Tryz.prog 77 #[.string s] w (ListR w (listL (byteL s))) := by
  have BAD := Lib.hid (fun w' k h hk hb => ListR.bad (w := w) (w' := w') (R := listL (byteL s)) (k := k) h hk hb)
  have GOOD := Lib.hid (fun w' l v h hb => ListR.good (w := w) (w' := w') (R := listL (byteL s)) (l := l) (v := v) h hb)
  have SQ := splitP_any s w hs
  unfold SplR at SQ
  have SO := Lib.hid (splitL_ok (byteL s) 44)
  obtain ⟨S, hS⟩ : ∃ S, splitL (byteL s) 44 = S := ⟨_, rfl⟩
  have E1 := Lib.hid (fun h => listL_err hS h); have E2 := Lib.hid (fun h h2 => listL_bad hS h h2); have E3 := Lib.hid (fun h h2 => listL_ok hS h h2)
  rw [hS] at SQ SO
  have SL := Lib.hid (show S.1.length ≤ 4000001 by have := SO.out.2; rw [byteL_len] at this; omega)
  have SH := Lib.hid SQ
  clear SQ SO hS
  generalize ListR w (listL (byteL s)) = PP at *
  generalize listL (byteL s) = R at *
  go_enter Tryz.func77, Tryz.ntmps77
  go_wp2_with fail
  refine SH.out.mono ?_
  clear SH
  rintro e w4 ⟨v, rfl, hp⟩
  obtain ⟨ps, pl, er⟩ := S
  dsimp only at hp E1 E2 E3 SL ⊢
  have HP := Lib.hid hp
  clear hp
  by_cases her : er = 0
  · subst her
    have E2' := Lib.hid (fun h => E2.out rfl h); have E3' := Lib.hid (fun h => E3.out rfl h)
    clear E1 E2 E3
    obtain ⟨A, c, rfl, hnc, hR⟩ := pms_rds HP.out
    have RD := Lib.hid hR
    have B4 := Lib.hid HP.out.bw
    generalize hn : ps.length = n at *
    have HN := Lib.hid hn
    have nL := SL.out
    clear hn HP hR SL
    go_wp2_with fail
    go_loopw [7, 21] (fun v7 v wr => LIR w w4 ps n v7 v wr) (fun _ v _ => n - (intOf v).toNat)
    case atStart => exact ⟨0, _, rfl, Nat.zero_le _, rfl, Lib.hid (VX.nil _ _ w4), Lib.hid (fun _ _ h => absurd h (Nat.not_lt_zero _))⟩
    case round =>
      obtain ⟨k, x, rfl, hk, rfl, HX, HE⟩ := hrel
      by_cases hlt : k < n
      · obtain ⟨p, hp⟩ : ∃ p, ps[k]? = some p := ⟨_, List.getElem?_eq_getElem (by rw [HN.out]; exact hlt)⟩
        have hd : decide (k < n) = true := by simp [hlt]
        have hd2 : decide ((k : Int) < (n : Int)) = true := by simp; omega
        obtain ⟨ab, ao, rfl, hab, hac⟩ := RD.out (by rw [pcs_len2, HN.out]; omega)
        have RG := Lib.hid (show wr.rangeAt ab (ao + k * 2) [.int .i64 (p.1 : Int), .string (strOfNums p.2)] from fun j u hu => (HX.out.bw.cell (p := ⟨ab, _, none⟩) hab).trans (Rds.range2 hac (k * 2) _ (pcs_at2 hp) j u hu))
        have NO := Lib.hid (fun h => E2'.out (all_at_no hp h))
        have TK := Lib.hid (show (ps.map (·.2)).take (k + 1) = (ps.map (·.2)).take k ++ [p.2] from take_succ_at (by rw [List.getElem?_map, hp]; rfl))
        have NX := Lib.hid (fun (h : p.2.isEmpty = false) (j : Nat) (q : Nat × List Int) (hj : j < k + 1) (hq : ps[j]? = some q) => show q.2.isEmpty = false by
          rcases (show j < k ∨ j = k by omega) with h1 | rfl
          · exact HE.out j q h1 hq
          · obtain rfl := Option.some.inj (hp.symm.trans hq)
            exact h)
        have QE := Lib.hid (empty_beq p.2)
        clear hac hab hp HE
        obtain ⟨p1, p2⟩ := p
        dsimp only at RG NO TK NX QE
        have RN := Lib.hid (Row.new wr 150 [.int .i64 (p1 : Int), .string (strOfNums p2)])
        have BN := Lib.hid ((Below.refl wr.heap.size wr).alloc (Nat.le_refl _) (.cells #[.int .i64 (p1 : Int), .string (strOfNums p2)] 150))
        go_upto_region 8 with (with_reducible refine wpList_load_mid rfl 150 (.tmp 23) rfl ab (ao + k * 2) rfl [.int .i64 (p1 : Int), .string (strOfNums p2)] _ RG.out Tryz.underlying150 rfl (sizePc _ _) ?_)
        have X2 := Lib.hid (HX.out.step BN.out)
        generalize wr.alloc (.cells #[.int .i64 (p1 : Int), .string (strOfNums p2)] 150) = w5 at *
        have c1 := RN.out.cell 1
        simp only [List.getElem?_cons_succ, List.getElem?_cons_zero] at c1
        generalize wr.heap.size = pb at *
        have LK : ((ps.map (·.2)).take k).length ≤ k := by rw [List.length_take]; omega
        clear BN RN RG HX
        cases hq : p2.isEmpty with
        | true =>
          have q2 := QE.out.trans hq
          have E := Lib.hid (NO.out hq)
          clear NO NX hq
          go_wp2_with fail
          first | exact BAD.out _ _ E.out (by decide) (bthen B4.out X2.out.bw) | (go_ret2; exact BAD.out _ _ E.out (by decide) (bthen B4.out X2.out.bw))
        | false =>
          have q2 := QE.out.trans hq
          have N2 := Lib.hid (NX.out hq)
          clear NO NX hq
          go_wp2_with (with_reducible refine wpList_pushL rfl (.tmp 28) (.tmp 31) rfl _ _ rfl X2.out p2 rfl (by omega) ?_)
          intro v' w6 X6
          rw [← TK.out] at X6
          clear c1
          go_wp2_with fail
          go_roundw
          case rel => exact ⟨k + 1, _, rfl, by omega, by go_num, X6, N2⟩
          case measure => simp [intOf]; omega
      · obtain rfl : k = n := by omega
        have TK : (ps.map (·.2)).take k = ps.map (·.2) := List.take_of_length_le (by rw [List.length_map, HN.out]; exact Nat.le_refl _)
        rw [TK] at HX
        have E := Lib.hid (E3'.out (by
          rw [List.all_eq_true]
          intro q hq
          obtain ⟨p, hp, rfl⟩ := List.mem_map.1 hq
          obtain ⟨j, hj⟩ := List.mem_iff_getElem?.1 hp
          rw [HE.out j p (by rw [← HN.out]; exact (List.getElem?_eq_some_iff.1 hj).1) hj]
          rfl))
        go_wp2_with fail
        first | exact GOOD.out _ _ _ E.out (HX.out.base B4.out) | (go_ret2; exact GOOD.out _ _ _ E.out (HX.out.base B4.out))
  · have hb : (er != 0) = true := by simpa using her
    have E := Lib.hid (E1.out her)
    go_wp2_with fail
    first | exact BAD.out _ _ E.out her HP.out.bw | (go_ret2; exact BAD.out _ _ E.out her HP.out.bw)
set_option maxRecDepth 100000 in
theorem elems_any (s : ByteArray) (w : World) (hs : s.size ≤ 4000000) : Calls Tryz.prog 60 #[.string s] w fun e w' => ∃ v, e = .returned v ∧ SXL w v (elemsL (byteL s)) w' := by
  have LQ := Lib.hid (list_any s w hs)
  have EV := Lib.hid (show elemsL (byteL s) = match listL (byteL s) with
    | .ok l => l
    | .error _ => [byteL s] from rfl)
  have ST := Lib.hid (str_byteL s)
  generalize elemsL (byteL s) = E at *
  generalize listL (byteL s) = R at *
  go_enter Tryz.func60, Tryz.ntmps60
  go_wp2_with fail
  refine LQ.out.mono ?_
  clear LQ
  intro e w1 hq
  cases R with
  | error k =>
    obtain ⟨rfl, hb, hk⟩ := hq
    have B1 := Lib.hid hb
    have hkb : (k == 0) = false := by simp [hk]
    clear hb
    go_wp2_with fail
    go_ret
    refine ⟨_, rfl, ?_⟩
    rw [EV.out]
    have h := (VX.new' w1 9 1 [.string s] rfl (by decide)).base B1.out
    show VX _ 1 w _ 1 [.string (strOfNums (byteL s))] _
    rw [ST.out]
    exact h
  | ok l =>
    obtain ⟨v, rfl, hv⟩ := hq
    have HV := Lib.hid hv
    clear hv
    go_wp2_with fail
    go_ret
    exact ⟨_, rfl, by rw [EV.out]; exact HV.out⟩
end Go.Proofs.YtcnkjgjimcddiaaGreatDoor
