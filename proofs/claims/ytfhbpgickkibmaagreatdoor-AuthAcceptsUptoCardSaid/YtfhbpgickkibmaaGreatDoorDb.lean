/- Contracts: the writer's text; auth.PrintChallenge. Contract: auth.PrintChallenge. -/
import Derived.Test.YtfhbpgickkibmaaGreatDoorCz
namespace Go.Proofs.YtfhbpgickkibmaaGreatDoor
open Go.RowKit

theorem byteL_app (a b : ByteArray) : byteL (a ++ b) = byteL a ++ byteL b := by
  unfold byteL
  rw [ByteArray.data_append]
  simp
theorem quoteL_len (l : List Int) : (quoteL l).length ≤ 2 * l.length + 2 := by
  unfold quoteL
  have := escL_len l
  simp
  omega
theorem addT_eq_yes {L : Option (List (List Int))} {nm xs : List Int} (h : clean xs = true) : addT L nm xs = addP L (nq nm xs) := by unfold addT addP; rw [if_pos h]
theorem WS.bad {w : World} {g n : Nat} {L : Option (List (List Int))} {wr : World} (h : WS w g L n wr) : wr.cell? ⟨g, 1, none⟩ = some (.bool L.isNone) ∧ wr.frozen? ⟨g, 1, none⟩ = false ∧ WS w g L n (wr.setCell ⟨g, 1, none⟩ (.bool L.isNone)) ∧ WS w g none n (wr.setCell ⟨g, 1, none⟩ (.bool true)) := by
  obtain ⟨v, zs, h1, h2, h3⟩ := h
  exact ⟨h2.r.cell 1, h2.r.frozen 1, ⟨v, zs, h1, h2.setBad _, h3⟩, ⟨v, zs, h1, h2.setBad _, fun l hl => by cases hl⟩⟩
set_option maxRecDepth 100000 in
theorem text_any (w0 : World) (g n : Nat) (L : Option (List (List Int))) (nm x : ByteArray) (w : World) (H : WS w0 g L n w) (hn : n ≤ 99) (hm : nm.size ≤ 100) (hx : x.size ≤ 4000000) :
    Calls Tryz.prog 46 #[.pointer (some ⟨g, 0, none⟩), .string nm, .string x] w fun e w' => e = .returned (.tuple #[]) ∧ WS w0 g (addT L (byteL nm) (byteL x)) (n + 1) w' := by
  have H0 := Lib.hid H
  have NE := Lib.hid (fun (h : clean (byteL x) = false) => addT_no (L := L) (nm := byteL nm) h)
  have YE := Lib.hid (fun (h : clean (byteL x) = true) => (addT_eq_yes (L := L) (nm := byteL nm) h).trans (show addP L (nq (byteL nm) (byteL x)) = addP L (byteL (nm ++ ⟨#[61]⟩ ++ strOfNums (quoteL (byteL x)))) by
    rw [byteL_app, byteL_app, byteL_str (quoteL_by (byteL_by x))]; rfl))
  have QS := quoteL_len (byteL x)
  rw [byteL_len, ← num_size] at QS
  clear H
  generalize addT L (byteL nm) (byteL x) = LT at *
  go_enter Tryz.func46, Tryz.ntmps46
  go_wp2_with fail
  refine (quote_any x _ hx).mono ?_
  rintro e w1 ⟨rfl, hb1⟩
  have H1 := Lib.hid (H0.out.below hb1)
  clear hb1 H0
  obtain ⟨c1, f1, s1, s2⟩ := H1.out.bad
  have S1 := Lib.hid s1; have S2 := Lib.hid s2
  clear s1 s2
  cases hcl : clean (byteL x) with
  | true =>
    have E := Lib.hid (YE.out hcl)
    rw [quoteV_yes hcl]
    clear hcl
    generalize strOfNums (quoteL (byteL x)) = q at *
    cases hL : L.isNone with
    | true =>
      rw [hL] at c1 S1
      clear hL
      go_wp2_with fail
      clear c1 f1
      refine (plain_any w0 g n L _ _ S1.out (by omega) (by rw [ByteArray.size_append, ByteArray.size_append]; show _ + 1 + _ ≤ _; omega)).mono ?_
      rintro e w3 ⟨rfl, h3⟩
      have H3 := Lib.hid h3; clear h3
      go_wp2_with fail
      go_end0
      exact ⟨rfl, by rw [E.out]; exact H3.out⟩
    | false =>
      rw [hL] at c1 S1
      clear hL
      go_wp2_with fail
      clear c1 f1
      refine (plain_any w0 g n L _ _ S1.out (by omega) (by rw [ByteArray.size_append, ByteArray.size_append]; show _ + 1 + _ ≤ _; omega)).mono ?_
      rintro e w3 ⟨rfl, h3⟩
      have H3 := Lib.hid h3; clear h3
      go_wp2_with fail
      go_end0
      exact ⟨rfl, by rw [E.out]; exact H3.out⟩
  | false =>
    have E := Lib.hid (NE.out hcl)
    rw [quoteV_no hcl]
    clear hcl
    cases hL : L.isNone with
    | true =>
      rw [hL] at c1
      clear hL
      go_wp2_with fail
      clear c1 f1
      refine (plain_any w0 g n none _ _ S2.out (by omega) (by rw [ByteArray.size_append, ByteArray.size_append]; show _ + 1 + 0 ≤ _; omega)).mono ?_
      rintro e w3 ⟨rfl, h3⟩
      have H3 := Lib.hid h3; clear h3
      go_wp2_with fail
      go_end0
      exact ⟨rfl, by rw [E.out]; exact H3.out⟩
    | false =>
      rw [hL] at c1
      clear hL
      go_wp2_with fail
      clear c1 f1
      refine (plain_any w0 g n none _ _ S2.out (by omega) (by rw [ByteArray.size_append, ByteArray.size_append]; show _ + 1 + 0 ≤ _; omega)).mono ?_
      rintro e w3 ⟨rfl, h3⟩
      have H3 := Lib.hid h3; clear h3
      go_wp2_with fail
      go_end0
      exact ⟨rfl, by rw [E.out]; exact H3.out⟩
theorem WS.new (w : World) : WS w w.heap.size (some []) 0 (w.alloc (.cells #[.slice none 0 0, .bool false] 101)) :=
  ⟨.slice none 0 0, [], rfl, ⟨(Below.refl _ _).alloc (Nat.le_refl _) _, Nat.le_refl _, Row.new w 101 [.slice none 0 0, .bool false], World.ownsRow_nil _ _ _ _⟩, fun l hl => by cases hl; exact ⟨rfl, fun p hp => by cases hp⟩⟩
end Go.Proofs.YtfhbpgickkibmaaGreatDoor
namespace Go.Proofs.YtfhbpgickkibmaaGreatDoor
open Go.RowKit

theorem Row.five {w : World} {b : Nat} {T : TypeId} {v0 v1 v2 v3 v4 : Value} (h : Row w b T [v0, v1, v2, v3, v4]) : w.cell? ⟨b, 0, none⟩ = some v0 ∧ w.cell? ⟨b, 1, none⟩ = some v1 ∧ w.cell? ⟨b, 2, none⟩ = some v2 ∧ w.cell? ⟨b, 3, none⟩ = some v3 ∧ w.cell? ⟨b, 4, none⟩ = some v4 :=
  ⟨h.cell 0, h.cell 1, h.cell 2, h.cell 3, h.cell 4⟩
theorem byteL_empty (s : ByteArray) : byteL s = [] ↔ s = ⟨#[]⟩ := by
  constructor
  · intro h
    rw [← str_byteL s, h]; rfl
  · rintro rfl; rfl
theorem prV_form (L : Option (List (List Int))) : ∃ a k, prV L = .tuple #[.string a, .int .u8 k] := by
  cases L
  · exact ⟨_, _, rfl⟩
  · exact ⟨_, _, rfl⟩
set_option maxRecDepth 100000 in
set_option maxHeartbeats 1000000 in
theorem printch_any (rs ns os : ByteArray) (i s : Bool) (w : World) (hr : rs.size ≤ 4000000) (hn : ns.size ≤ 4000000) (ho : os.size ≤ 4000000) :
    Calls Tryz.prog 36 #[.agg #[.string rs, .string ns, .string os, .bool i, .bool s]] w fun e w' => e = .returned (prV (printCh ⟨byteL rs, byteL ns, byteL os, i, s⟩)) ∧ Below w.heap.size w w' := by
  have FIN := Lib.hid (writeCh_eq ⟨byteL rs, byteL ns, byteL os, i, s⟩)
  have PF := Lib.hid (prV_form (printCh ⟨byteL rs, byteL ns, byteL os, i, s⟩))
  have RB := Lib.hid (Row.new w 36 [.string rs, .string ns, .string os, .bool i, .bool s])
  have B0 := Lib.hid ((Below.refl w.heap.size w).alloc (Nat.le_refl _) (.cells #[.string rs, .string ns, .string os, .bool i, .bool s] 36))
  have H := Lib.hid (show WS (w.alloc (.cells #[.string rs, .string ns, .string os, .bool i, .bool s] 36)) (w.heap.size + 1) (some []) 0 ((w.alloc (.cells #[.string rs, .string ns, .string os, .bool i, .bool s] 36)).alloc (.cells #[.slice none 0 0, .bool false] 101)) by
    have h := WS.new (w.alloc (.cells #[.string rs, .string ns, .string os, .bool i, .bool s] 36))
    rw [show (w.alloc (.cells #[.string rs, .string ns, .string os, .bool i, .bool s] 36)).heap.size = w.heap.size + 1 by simp] at h
    exact h)
  go_enter Tryz.func36, Tryz.ntmps36
  obtain ⟨c0, c1, c2, c3, c4⟩ := (RB.out.below H.out.bw).five
  generalize hW : w.alloc (.cells #[.string rs, .string ns, .string os, .bool i, .bool s] 36) = W at RB B0 H
  have HW := Lib.hid hW.symm
  rw [hW] at c0 c1 c2 c3 c4
  clear hW
  go_wp2_with fail
  rw [← HW.out]
  refine (text_any _ _ _ _ ⟨#[114, 101, 97, 108, 109]⟩ rs _ H.out (by omega) (by decide) (by assumption)).mono ?_
  rintro e w3 ⟨rfl, h3⟩
  rw [show byteL ⟨#[114, 101, 97, 108, 109]⟩ = REALM from rfl] at h3
  replace H := Lib.hid h3
  obtain ⟨c0, c1, c2, c3, c4⟩ := (RB.out.below H.out.bw).five
  clear h3
  go_wp2_with fail
  refine (text_any _ _ _ _ ⟨#[110, 111, 110, 99, 101]⟩ ns _ H.out (by omega) (by decide) (by assumption)).mono ?_
  rintro e w3 ⟨rfl, h3⟩
  rw [show byteL ⟨#[110, 111, 110, 99, 101]⟩ = NONCE from rfl] at h3
  replace H := Lib.hid h3
  obtain ⟨c0, c1, c2, c3, c4⟩ := (RB.out.below H.out.bw).five
  clear h3
  by_cases ho2 : os = ⟨#[]⟩
  · have OE := Lib.hid (fun (A B : Option (List (List Int))) => show (if byteL os = [] then A else B) = A from if_pos ((byteL_empty os).2 ho2))
    subst ho2
    go_wp2_with fail
    refine (plain_any _ _ _ _ ⟨#[97, 108, 103, 111, 114, 105, 116, 104, 109, 61, 83, 72, 65, 45, 50, 53, 54]⟩ _ H.out (by omega) (by decide)).mono ?_
    rintro e w3 ⟨rfl, h3⟩
    rw [show byteL ⟨#[97, 108, 103, 111, 114, 105, 116, 104, 109, 61, 83, 72, 65, 45, 50, 53, 54]⟩ = ALGP from rfl] at h3
    replace H := Lib.hid h3
    obtain ⟨c0, c1, c2, c3, c4⟩ := (RB.out.below H.out.bw).five
    clear h3
    cases i with
    | true =>
      go_wp2_with fail
      refine (text_any _ _ _ _ ⟨#[113, 111, 112]⟩ ⟨#[97, 117, 116, 104, 44, 97, 117, 116, 104, 45, 105, 110, 116]⟩ _ H.out (by omega) (by decide) (by decide)).mono ?_
      rintro e w3 ⟨rfl, h3⟩
      rw [show byteL ⟨#[113, 111, 112]⟩ = QOP from rfl, show byteL ⟨#[97, 117, 116, 104, 44, 97, 117, 116, 104, 45, 105, 110, 116]⟩ = BOTH from rfl] at h3
      replace H := Lib.hid h3
      obtain ⟨c0, c1, c2, c3, c4⟩ := (RB.out.below H.out.bw).five
      clear h3
      cases s with
      | true =>
        go_wp2_with fail
        refine (plain_any _ _ _ _ ⟨#[115, 116, 97, 108, 101, 61, 116, 114, 117, 101]⟩ _ H.out (by omega) (by decide)).mono ?_
        rintro e w3 ⟨rfl, h3⟩
        rw [show byteL ⟨#[115, 116, 97, 108, 101, 61, 116, 114, 117, 101]⟩ = STALEP from rfl] at h3
        replace H := Lib.hid h3
        obtain ⟨c0, c1, c2, c3, c4⟩ := (RB.out.below H.out.bw).five
        clear h3
        go_wp2_with fail
        refine (result_any _ _ _ _ _ H.out (by omega)).mono ?_
        rintro e w4 ⟨rfl, hb4⟩
        have B4 := Lib.hid (bthen (bthen B0.out H.out.bw) hb4)
        have E := Lib.hid (FIN.out.symm.trans (by unfold writeCh; simp only [OE.out, Bool.false_eq_true, ↓reduceIte]; rfl))
        rw [← E.out]
        clear hb4 E
        obtain ⟨pa, pk, hPV⟩ := PF.out
        rw [hPV]
        have PV := Lib.hid hPV
        clear hPV
        go_wp2_with fail
        go_ret2
        exact ⟨by rw [PV.out]; rfl, B4.out⟩
      | false =>
        go_wp2_with fail
        refine (result_any _ _ _ _ _ H.out (by omega)).mono ?_
        rintro e w4 ⟨rfl, hb4⟩
        have B4 := Lib.hid (bthen (bthen B0.out H.out.bw) hb4)
        have E := Lib.hid (FIN.out.symm.trans (by unfold writeCh; simp only [OE.out, Bool.false_eq_true, ↓reduceIte]; rfl))
        rw [← E.out]
        clear hb4 E
        obtain ⟨pa, pk, hPV⟩ := PF.out
        rw [hPV]
        have PV := Lib.hid hPV
        clear hPV
        go_wp2_with fail
        go_ret2
        exact ⟨by rw [PV.out]; rfl, B4.out⟩
    | false =>
      go_wp2_with fail
      refine (text_any _ _ _ _ ⟨#[113, 111, 112]⟩ ⟨#[97, 117, 116, 104]⟩ _ H.out (by omega) (by decide) (by decide)).mono ?_
      rintro e w3 ⟨rfl, h3⟩
      rw [show byteL ⟨#[113, 111, 112]⟩ = QOP from rfl, show byteL ⟨#[97, 117, 116, 104]⟩ = AUTH from rfl] at h3
      replace H := Lib.hid h3
      obtain ⟨c0, c1, c2, c3, c4⟩ := (RB.out.below H.out.bw).five
      clear h3
      cases s with
      | true =>
        go_wp2_with fail
        refine (plain_any _ _ _ _ ⟨#[115, 116, 97, 108, 101, 61, 116, 114, 117, 101]⟩ _ H.out (by omega) (by decide)).mono ?_
        rintro e w3 ⟨rfl, h3⟩
        rw [show byteL ⟨#[115, 116, 97, 108, 101, 61, 116, 114, 117, 101]⟩ = STALEP from rfl] at h3
        replace H := Lib.hid h3
        obtain ⟨c0, c1, c2, c3, c4⟩ := (RB.out.below H.out.bw).five
        clear h3
        go_wp2_with fail
        refine (result_any _ _ _ _ _ H.out (by omega)).mono ?_
        rintro e w4 ⟨rfl, hb4⟩
        have B4 := Lib.hid (bthen (bthen B0.out H.out.bw) hb4)
        have E := Lib.hid (FIN.out.symm.trans (by unfold writeCh; simp only [OE.out, Bool.false_eq_true, ↓reduceIte]; rfl))
        rw [← E.out]
        clear hb4 E
        obtain ⟨pa, pk, hPV⟩ := PF.out
        rw [hPV]
        have PV := Lib.hid hPV
        clear hPV
        go_wp2_with fail
        go_ret2
        exact ⟨by rw [PV.out]; rfl, B4.out⟩
      | false =>
        go_wp2_with fail
        refine (result_any _ _ _ _ _ H.out (by omega)).mono ?_
        rintro e w4 ⟨rfl, hb4⟩
        have B4 := Lib.hid (bthen (bthen B0.out H.out.bw) hb4)
        have E := Lib.hid (FIN.out.symm.trans (by unfold writeCh; simp only [OE.out, Bool.false_eq_true, ↓reduceIte]; rfl))
        rw [← E.out]
        clear hb4 E
        obtain ⟨pa, pk, hPV⟩ := PF.out
        rw [hPV]
        have PV := Lib.hid hPV
        clear hPV
        go_wp2_with fail
        go_ret2
        exact ⟨by rw [PV.out]; rfl, B4.out⟩
  · have OE := Lib.hid (fun (A B : Option (List (List Int))) => show (if byteL os = [] then A else B) = B from if_neg (fun h => ho2 ((byteL_empty os).1 h)))
    have ob : (os.toList == ([] : List UInt8)) = false := by
      rw [Bool.eq_false_iff]; intro h; apply ho2
      exact toList_inj.1 ((by simpa using h : os.toList = []).trans (by rw [ByteArray.toList_eq]))
    clear ho2
    go_wp2_with fail
    refine (text_any _ _ _ _ ⟨#[111, 112, 97, 113, 117, 101]⟩ os _ H.out (by omega) (by decide) (by assumption)).mono ?_
    rintro e w3 ⟨rfl, h3⟩
    rw [show byteL ⟨#[111, 112, 97, 113, 117, 101]⟩ = OPAQUE from rfl] at h3
    replace H := Lib.hid h3
    obtain ⟨c0, c1, c2, c3, c4⟩ := (RB.out.below H.out.bw).five
    clear h3
    go_wp2_with fail
    refine (plain_any _ _ _ _ ⟨#[97, 108, 103, 111, 114, 105, 116, 104, 109, 61, 83, 72, 65, 45, 50, 53, 54]⟩ _ H.out (by omega) (by decide)).mono ?_
    rintro e w3 ⟨rfl, h3⟩
    rw [show byteL ⟨#[97, 108, 103, 111, 114, 105, 116, 104, 109, 61, 83, 72, 65, 45, 50, 53, 54]⟩ = ALGP from rfl] at h3
    replace H := Lib.hid h3
    obtain ⟨c0, c1, c2, c3, c4⟩ := (RB.out.below H.out.bw).five
    clear h3
    cases i with
    | true =>
      go_wp2_with fail
      refine (text_any _ _ _ _ ⟨#[113, 111, 112]⟩ ⟨#[97, 117, 116, 104, 44, 97, 117, 116, 104, 45, 105, 110, 116]⟩ _ H.out (by omega) (by decide) (by decide)).mono ?_
      rintro e w3 ⟨rfl, h3⟩
      rw [show byteL ⟨#[113, 111, 112]⟩ = QOP from rfl, show byteL ⟨#[97, 117, 116, 104, 44, 97, 117, 116, 104, 45, 105, 110, 116]⟩ = BOTH from rfl] at h3
      replace H := Lib.hid h3
      obtain ⟨c0, c1, c2, c3, c4⟩ := (RB.out.below H.out.bw).five
      clear h3
      cases s with
      | true =>
        go_wp2_with fail
        refine (plain_any _ _ _ _ ⟨#[115, 116, 97, 108, 101, 61, 116, 114, 117, 101]⟩ _ H.out (by omega) (by decide)).mono ?_
        rintro e w3 ⟨rfl, h3⟩
        rw [show byteL ⟨#[115, 116, 97, 108, 101, 61, 116, 114, 117, 101]⟩ = STALEP from rfl] at h3
        replace H := Lib.hid h3
        obtain ⟨c0, c1, c2, c3, c4⟩ := (RB.out.below H.out.bw).five
        clear h3
        go_wp2_with fail
        refine (result_any _ _ _ _ _ H.out (by omega)).mono ?_
        rintro e w4 ⟨rfl, hb4⟩
        have B4 := Lib.hid (bthen (bthen B0.out H.out.bw) hb4)
        have E := Lib.hid (FIN.out.symm.trans (by unfold writeCh; simp only [OE.out, Bool.false_eq_true, ↓reduceIte]; rfl))
        rw [← E.out]
        clear hb4 E
        obtain ⟨pa, pk, hPV⟩ := PF.out
        rw [hPV]
        have PV := Lib.hid hPV
        clear hPV
        go_wp2_with fail
        go_ret2
        exact ⟨by rw [PV.out]; rfl, B4.out⟩
      | false =>
        go_wp2_with fail
        refine (result_any _ _ _ _ _ H.out (by omega)).mono ?_
        rintro e w4 ⟨rfl, hb4⟩
        have B4 := Lib.hid (bthen (bthen B0.out H.out.bw) hb4)
        have E := Lib.hid (FIN.out.symm.trans (by unfold writeCh; simp only [OE.out, Bool.false_eq_true, ↓reduceIte]; rfl))
        rw [← E.out]
        clear hb4 E
        obtain ⟨pa, pk, hPV⟩ := PF.out
        rw [hPV]
        have PV := Lib.hid hPV
        clear hPV
        go_wp2_with fail
        go_ret2
        exact ⟨by rw [PV.out]; rfl, B4.out⟩
    | false =>
      go_wp2_with fail
      refine (text_any _ _ _ _ ⟨#[113, 111, 112]⟩ ⟨#[97, 117, 116, 104]⟩ _ H.out (by omega) (by decide) (by decide)).mono ?_
      rintro e w3 ⟨rfl, h3⟩
      rw [show byteL ⟨#[113, 111, 112]⟩ = QOP from rfl, show byteL ⟨#[97, 117, 116, 104]⟩ = AUTH from rfl] at h3
      replace H := Lib.hid h3
      obtain ⟨c0, c1, c2, c3, c4⟩ := (RB.out.below H.out.bw).five
      clear h3
      cases s with
      | true =>
        go_wp2_with fail
        refine (plain_any _ _ _ _ ⟨#[115, 116, 97, 108, 101, 61, 116, 114, 117, 101]⟩ _ H.out (by omega) (by decide)).mono ?_
        rintro e w3 ⟨rfl, h3⟩
        rw [show byteL ⟨#[115, 116, 97, 108, 101, 61, 116, 114, 117, 101]⟩ = STALEP from rfl] at h3
        replace H := Lib.hid h3
        obtain ⟨c0, c1, c2, c3, c4⟩ := (RB.out.below H.out.bw).five
        clear h3
        go_wp2_with fail
        refine (result_any _ _ _ _ _ H.out (by omega)).mono ?_
        rintro e w4 ⟨rfl, hb4⟩
        have B4 := Lib.hid (bthen (bthen B0.out H.out.bw) hb4)
        have E := Lib.hid (FIN.out.symm.trans (by unfold writeCh; simp only [OE.out, Bool.false_eq_true, ↓reduceIte]; rfl))
        rw [← E.out]
        clear hb4 E
        obtain ⟨pa, pk, hPV⟩ := PF.out
        rw [hPV]
        have PV := Lib.hid hPV
        clear hPV
        go_wp2_with fail
        go_ret2
        exact ⟨by rw [PV.out]; rfl, B4.out⟩
      | false =>
        go_wp2_with fail
        refine (result_any _ _ _ _ _ H.out (by omega)).mono ?_
        rintro e w4 ⟨rfl, hb4⟩
        have B4 := Lib.hid (bthen (bthen B0.out H.out.bw) hb4)
        have E := Lib.hid (FIN.out.symm.trans (by unfold writeCh; simp only [OE.out, Bool.false_eq_true, ↓reduceIte]; rfl))
        rw [← E.out]
        clear hb4 E
        obtain ⟨pa, pk, hPV⟩ := PF.out
        rw [hPV]
        have PV := Lib.hid hPV
        clear hPV
        go_wp2_with fail
        go_ret2
        exact ⟨by rw [PV.out]; rfl, B4.out⟩
end Go.Proofs.YtfhbpgickkibmaaGreatDoor
