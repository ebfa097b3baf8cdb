/- Contract: auth.PrintChallenge. -/
import Derived.Test.YtfhbpgickkibmaaGreatDoorDa
namespace Go.Proofs.YtfhbpgickkibmaaGreatDoor
open Go.RowKit

theorem Row.five {w : World} {b : Nat} {T : TypeId} {v0 v1 v2 v3 v4 : Value} (h : Row w b T [v0, v1, v2, v3, v4]) : w.cell? ⟨b, 0, none⟩ = some v0 ∧ w.cell? ⟨b, 1, none⟩ = some v1 ∧ w.cell? ⟨b, 2, none⟩ = some v2 ∧ w.cell? ⟨b, 3, none⟩ = some v3 ∧ w.cell? ⟨b, 4, none⟩ = some v4 :=
  ⟨h.cell 0, h.cell 1, h.cell 2, h.cell 3, h.cell 4⟩
theorem byteL_empty (s : ByteArray) : byteL s = [] ↔ s = ⟨#[]⟩ := by
  constructor
  · intro h
    rw [← str_byteL s, h]; rfl
  · rintro rfl; rfl
theorem prV_form (L : Option (List (List Int))) : ∃ a k, prV L = .tuple #[.string a, .int .u8 k] := by
  cases L
  · exact ⟨_, _, rfl⟩
  · exact ⟨_, _, rfl⟩
set_option maxRecDepth 100000 in
set_option maxHeartbeats 1000000 in
theorem printch_any (rs ns os : ByteArray) (i s : Bool) (w : World) (hr : rs.size ≤ 4000000) (hn : ns.size ≤ 4000000) (ho : os.size ≤ 4000000) :
    Calls Tryz.prog 36 #[.agg #[.string rs, .string ns, .string os, .bool i, .bool s]] w fun e w' => e = .returned (prV (printCh ⟨byteL rs, byteL ns, byteL os, i, s⟩)) ∧ Below w.heap.size w w' := by
  have FIN := Lib.hid (writeCh_eq ⟨byteL rs, byteL ns, byteL os, i, s⟩)
  have PF := Lib.hid (prV_form (printCh ⟨byteL rs, byteL ns, byteL os, i, s⟩))
  have RB := Lib.hid (Row.new w 36 [.string rs, .string ns, .string os, .bool i, .bool s])
  have B0 := Lib.hid ((Below.refl w.heap.size w).alloc (Nat.le_refl _) (.cells #[.string rs, .string ns, .string os, .bool i, .bool s] 36))
  have H := Lib.hid (show WS (w.alloc (.cells #[.string rs, .string ns, .string os, .bool i, .bool s] 36)) (w.heap.size + 1) (some []) 0 ((w.alloc (.cells #[.string rs, .string ns, .string os, .bool i, .bool s] 36)).alloc (.cells #[.slice none 0 0, .bool false] 101)) by
    have h := WS.new (w.alloc (.cells #[.string rs, .string ns, .string os, .bool i, .bool s] 36))
    rw [show (w.alloc (.cells #[.string rs, .string ns, .string os, .bool i, .bool s] 36)).heap.size = w.heap.size + 1 by simp] at h
    exact h)
  go_enter Tryz.func36, Tryz.ntmps36
  obtain ⟨c0, c1, c2, c3, c4⟩ := (RB.out.below H.out.bw).five
  generalize hW : w.alloc (.cells #[.string rs, .string ns, .string os, .bool i, .bool s] 36) = W at RB B0 H
  have HW := Lib.hid hW.symm
  rw [hW] at c0 c1 c2 c3 c4
  clear hW
  go_wp2_with fail
  rw [← HW.out]
  refine (text_any _ _ _ _ ⟨#[114, 101, 97, 108, 109]⟩ rs _ H.out (by omega) (by decide) (by assumption)).mono ?_
  rintro e w3 ⟨rfl, h3⟩
  rw [show byteL ⟨#[114, 101, 97, 108, 109]⟩ = REALM from rfl] at h3
  replace H := Lib.hid h3
  obtain ⟨c0, c1, c2, c3, c4⟩ := (RB.out.below H.out.bw).five
  clear h3
  go_wp2_with fail
  refine (text_any _ _ _ _ ⟨#[110, 111, 110, 99, 101]⟩ ns _ H.out (by omega) (by decide) (by assumption)).mono ?_
  rintro e w3 ⟨rfl, h3⟩
  rw [show byteL ⟨#[110, 111, 110, 99, 101]⟩ = NONCE from rfl] at h3
  replace H := Lib.hid h3
  obtain ⟨c0, c1, c2, c3, c4⟩ := (RB.out.below H.out.bw).five
  clear h3
  by_cases ho2 : os = ⟨#[]⟩
  · have OE := Lib.hid (fun (A B : Option (List (List Int))) => show (if byteL os = [] then A else B) = A from if_pos ((byteL_empty os).2 ho2))
    subst ho2
    go_wp2_with fail
    refine (plain_any _ _ _ _ ⟨#[97, 108, 103, 111, 114, 105, 116, 104, 109, 61, 83, 72, 65, 45, 50, 53, 54]⟩ _ H.out (by omega) (by decide)).mono ?_
    rintro e w3 ⟨rfl, h3⟩
    rw [show byteL ⟨#[97, 108, 103, 111, 114, 105, 116, 104, 109, 61, 83, 72, 65, 45, 50, 53, 54]⟩ = ALGP from rfl] at h3
    replace H := Lib.hid h3
    obtain ⟨c0, c1, c2, c3, c4⟩ := (RB.out.below H.out.bw).five
    clear h3
    cases i with
    | true =>
      go_wp2_with fail
      refine (text_any _ _ _ _ ⟨#[113, 111, 112]⟩ ⟨#[97, 117, 116, 104, 44, 97, 117, 116, 104, 45, 105, 110, 116]⟩ _ H.out (by omega) (by decide) (by decide)).mono ?_
      rintro e w3 ⟨rfl, h3⟩
      rw [show byteL ⟨#[113, 111, 112]⟩ = QOP from rfl, show byteL ⟨#[97, 117, 116, 104, 44, 97, 117, 116, 104, 45, 105, 110, 116]⟩ = BOTH from rfl] at h3
      replace H := Lib.hid h3
      obtain ⟨c0, c1, c2, c3, c4⟩ := (RB.out.below H.out.bw).five
      clear h3
      cases s with
      | true =>
        go_wp2_with fail
        refine (plain_any _ _ _ _ ⟨#[115, 116, 97, 108, 101, 61, 116, 114, 117, 101]⟩ _ H.out (by omega) (by decide)).mono ?_
        rintro e w3 ⟨rfl, h3⟩
        rw [show byteL ⟨#[115, 116, 97, 108, 101, 61, 116, 114, 117, 101]⟩ = STALEP from rfl] at h3
        replace H := Lib.hid h3
        obtain ⟨c0, c1, c2, c3, c4⟩ := (RB.out.below H.out.bw).five
        clear h3
        go_wp2_with fail
        refine (result_any _ _ _ _ _ H.out (by omega)).mono ?_
        rintro e w4 ⟨rfl, hb4⟩
        have B4 := Lib.hid (bthen (bthen B0.out H.out.bw) hb4)
        have E := Lib.hid (FIN.out.symm.trans (by unfold writeCh; simp only [OE.out, Bool.false_eq_true, ↓reduceIte]; rfl))
        rw [← E.out]
        clear hb4 E
        obtain ⟨pa, pk, hPV⟩ := PF.out
        rw [hPV]
        have PV := Lib.hid hPV
        clear hPV
        go_wp2_with fail
        go_ret2
        exact ⟨by rw [PV.out]; rfl, B4.out⟩
      | false =>
        go_wp2_with fail
        refine (result_any _ _ _ _ _ H.out (by omega)).mono ?_
        rintro e w4 ⟨rfl, hb4⟩
        have B4 := Lib.hid (bthen (bthen B0.out H.out.bw) hb4)
        have E := Lib.hid (FIN.out.symm.trans (by unfold writeCh; simp only [OE.out, Bool.false_eq_true, ↓reduceIte]; rfl))
        rw [← E.out]
        clear hb4 E
        obtain ⟨pa, pk, hPV⟩ := PF.out
        rw [hPV]
        have PV := Lib.hid hPV
        clear hPV
        go_wp2_with fail
        go_ret2
        exact ⟨by rw [PV.out]; rfl, B4.out⟩
    | false =>
      go_wp2_with fail
      refine (text_any _ _ _ _ ⟨#[113, 111, 112]⟩ ⟨#[97, 117, 116, 104]⟩ _ H.out (by omega) (by decide) (by decide)).mono ?_
      rintro e w3 ⟨rfl, h3⟩
      rw [show byteL ⟨#[113, 111, 112]⟩ = QOP from rfl, show byteL ⟨#[97, 117, 116, 104]⟩ = AUTH from rfl] at h3
      replace H := Lib.hid h3
      obtain ⟨c0, c1, c2, c3, c4⟩ := (RB.out.below H.out.bw).five
      clear h3
      cases s with
      | true =>
        go_wp2_with fail
        refine (plain_any _ _ _ _ ⟨#[115, 116, 97, 108, 101, 61, 116, 114, 117, 101]⟩ _ H.out (by omega) (by decide)).mono ?_
        rintro e w3 ⟨rfl, h3⟩
        rw [show byteL ⟨#[115, 116, 97, 108, 101, 61, 116, 114, 117, 101]⟩ = STALEP from rfl] at h3
        replace H := Lib.hid h3
        obtain ⟨c0, c1, c2, c3, c4⟩ := (RB.out.below H.out.bw).five
        clear h3
        go_wp2_with fail
        refine (result_any _ _ _ _ _ H.out (by omega)).mono ?_
        rintro e w4 ⟨rfl, hb4⟩
        have B4 := Lib.hid (bthen (bthen B0.out H.out.bw) hb4)
        have E := Lib.hid (FIN.out.symm.trans (by unfold writeCh; simp only [OE.out, Bool.false_eq_true, ↓reduceIte]; rfl))
        rw [← E.out]
        clear hb4 E
        obtain ⟨pa, pk, hPV⟩ := PF.out
        rw [hPV]
        have PV := Lib.hid hPV
        clear hPV
        go_wp2_with fail
        go_ret2
        exact ⟨by rw [PV.out]; rfl, B4.out⟩
      | false =>
        go_wp2_with fail
        refine (result_any _ _ _ _ _ H.out (by omega)).mono ?_
        rintro e w4 ⟨rfl, hb4⟩
        have B4 := Lib.hid (bthen (bthen B0.out H.out.bw) hb4)
        have E := Lib.hid (FIN.out.symm.trans (by unfold writeCh; simp only [OE.out, Bool.false_eq_true, ↓reduceIte]; rfl))
        rw [← E.out]
        clear hb4 E
        obtain ⟨pa, pk, hPV⟩ := PF.out
        rw [hPV]
        have PV := Lib.hid hPV
        clear hPV
        go_wp2_with fail
        go_ret2
        exact ⟨by rw [PV.out]; rfl, B4.out⟩
  · have OE := Lib.hid (fun (A B : Option (List (List Int))) => show (if byteL os = [] then A else B) = B from if_neg (fun h => ho2 ((byteL_empty os).1 h)))
    have ob : (os.toList == ([] : List UInt8)) = false := by
      rw [Bool.eq_false_iff]; intro h; apply ho2
      exact toList_inj.1 ((by simpa using h : os.toList = []).trans (by rw [ByteArray.toList_eq]))
    clear ho2
    go_wp2_with fail
    refine (text_any _ _ _ _ ⟨#[111, 112, 97, 113, 117, 101]⟩ os _ H.out (by omega) (by decide) (by assumption)).mono ?_
    rintro e w3 ⟨rfl, h3⟩
    rw [show byteL ⟨#[111, 112, 97, 113, 117, 101]⟩ = OPAQUE from rfl] at h3
    replace H := Lib.hid h3
    obtain ⟨c0, c1, c2, c3, c4⟩ := (RB.out.below H.out.bw).five
    clear h3
    go_wp2_with fail
    refine (plain_any _ _ _ _ ⟨#[97, 108, 103, 111, 114, 105, 116, 104, 109, 61, 83, 72, 65, 45, 50, 53, 54]⟩ _ H.out (by omega) (by decide)).mono ?_
    rintro e w3 ⟨rfl, h3⟩
    rw [show byteL ⟨#[97, 108, 103, 111, 114, 105, 116, 104, 109, 61, 83, 72, 65, 45, 50, 53, 54]⟩ = ALGP from rfl] at h3
    replace H := Lib.hid h3
    obtain ⟨c0, c1, c2, c3, c4⟩ := (RB.out.below H.out.bw).five
    clear h3
    cases i with
    | true =>
      go_wp2_with fail
      refine (text_any _ _ _ _ ⟨#[113, 111, 112]⟩ ⟨#[97, 117, 116, 104, 44, 97, 117, 116, 104, 45, 105, 110, 116]⟩ _ H.out (by omega) (by decide) (by decide)).mono ?_
      rintro e w3 ⟨rfl, h3⟩
      rw [show byteL ⟨#[113, 111, 112]⟩ = QOP from rfl, show byteL ⟨#[97, 117, 116, 104, 44, 97, 117, 116, 104, 45, 105, 110, 116]⟩ = BOTH from rfl] at h3
      replace H := Lib.hid h3
      obtain ⟨c0, c1, c2, c3, c4⟩ := (RB.out.below H.out.bw).five
      clear h3
      cases s with
      | true =>
        go_wp2_with fail
        refine (plain_any _ _ _ _ ⟨#[115, 116, 97, 108, 101, 61, 116, 114, 117, 101]⟩ _ H.out (by omega) (by decide)).mono ?_
        rintro e w3 ⟨rfl, h3⟩
        rw [show byteL ⟨#[115, 116, 97, 108, 101, 61, 116, 114, 117, 101]⟩ = STALEP from rfl] at h3
        replace H := Lib.hid h3
        obtain ⟨c0, c1, c2, c3, c4⟩ := (RB.out.below H.out.bw).five
        clear h3
        go_wp2_with fail
        refine (result_any _ _ _ _ _ H.out (by omega)).mono ?_
        rintro e w4 ⟨rfl, hb4⟩
        have B4 := Lib.hid (bthen (bthen B0.out H.out.bw) hb4)
        have E := Lib.hid (FIN.out.symm.trans (by unfold writeCh; simp only [OE.out, Bool.false_eq_true, ↓reduceIte]; rfl))
        rw [← E.out]
        clear hb4 E
        obtain ⟨pa, pk, hPV⟩ := PF.out
        rw [hPV]
        have PV := Lib.hid hPV
        clear hPV
        go_wp2_with fail
        go_ret2
        exact ⟨by rw [PV.out]; rfl, B4.out⟩
      | false =>
        go_wp2_with fail
        refine (result_any _ _ _ _ _ H.out (by omega)).mono ?_
        rintro e w4 ⟨rfl, hb4⟩
        have B4 := Lib.hid (bthen (bthen B0.out H.out.bw) hb4)
        have E := Lib.hid (FIN.out.symm.trans (by unfold writeCh; simp only [OE.out, Bool.false_eq_true, ↓reduceIte]; rfl))
        rw [← E.out]
        clear hb4 E
        obtain ⟨pa, pk, hPV⟩ := PF.out
        rw [hPV]
        have PV := Lib.hid hPV
        clear hPV
        go_wp2_with fail
        go_ret2
        exact ⟨by rw [PV.out]; rfl, B4.out⟩
    | false =>
      go_wp2_with fail
      refine (text_any _ _ _ _ ⟨#[113, 111, 112]⟩ ⟨#[97, 117, 116, 104]⟩ _ H.out (by omega) (by decide) (by decide)).mono ?_
      rintro e w3 ⟨rfl, h3⟩
      rw [show byteL ⟨#[113, 111, 112]⟩ = QOP from rfl, show byteL ⟨#[97, 117, 116, 104]⟩ = AUTH from rfl] at h3
      replace H := Lib.hid h3
      obtain ⟨c0, c1, c2, c3, c4⟩ := (RB.out.below H.out.bw).five
      clear h3
      cases s with
      | true =>
        go_wp2_with fail
        refine (plain_any _ _ _ _ ⟨#[115, 116, 97, 108, 101, 61, 116, 114, 117, 101]⟩ _ H.out (by omega) (by decide)).mono ?_
        rintro e w3 ⟨rfl, h3⟩
        rw [show byteL ⟨#[115, 116, 97, 108, 101, 61, 116, 114, 117, 101]⟩ = STALEP from rfl] at h3
        replace H := Lib.hid h3
        obtain ⟨c0, c1, c2, c3, c4⟩ := (RB.out.below H.out.bw).five
        clear h3
        go_wp2_with fail
        refine (result_any _ _ _ _ _ H.out (by omega)).mono ?_
        rintro e w4 ⟨rfl, hb4⟩
        have B4 := Lib.hid (bthen (bthen B0.out H.out.bw) hb4)
        have E := Lib.hid (FIN.out.symm.trans (by unfold writeCh; simp only [OE.out, Bool.false_eq_true, ↓reduceIte]; rfl))
        rw [← E.out]
        clear hb4 E
        obtain ⟨pa, pk, hPV⟩ := PF.out
        rw [hPV]
        have PV := Lib.hid hPV
        clear hPV
        go_wp2_with fail
        go_ret2
        exact ⟨by rw [PV.out]; rfl, B4.out⟩
      | false =>
        go_wp2_with fail
        refine (result_any _ _ _ _ _ H.out (by omega)).mono ?_
        rintro e w4 ⟨rfl, hb4⟩
        have B4 := Lib.hid (bthen (bthen B0.out H.out.bw) hb4)
        have E := Lib.hid (FIN.out.symm.trans (by unfold writeCh; simp only [OE.out, Bool.false_eq_true, ↓reduceIte]; rfl))
        rw [← E.out]
        clear hb4 E
        obtain ⟨pa, pk, hPV⟩ := PF.out
        rw [hPV]
        have PV := Lib.hid hPV
        clear hPV
        go_wp2_with fail
        go_ret2
        exact ⟨by rw [PV.out]; rfl, B4.out⟩
end Go.Proofs.YtfhbpgickkibmaaGreatDoor
