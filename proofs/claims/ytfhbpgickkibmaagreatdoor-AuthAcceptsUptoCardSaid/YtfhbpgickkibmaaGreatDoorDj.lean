/- Contract: auth.count. Contract: auth.PrintCredentials. -/
import Derived.Test.YtfhbpgickkibmaaGreatDoorDf
import Derived.Test.YtfhbpgickkibmaaGreatDoorPj
namespace Go.Proofs.YtfhbpgickkibmaaGreatDoor
open Go.RowKit

theorem Bs.row {w : World} {b : Nat} {T : TypeId} {xs : List Int} (h : Row w b T (U8 xs)) : Bs w w.heap.size (some ⟨b, 0, none⟩) xs := fun _ => ⟨_, rfl, h.lt, fun j x hx => by
  rw [Addr.add_mid, Nat.zero_add, h.cell j]
  exact U8_get hx⟩
set_option maxRecDepth 100000 in
theorem count_any (k : Int) (w : World) (h0 : 0 ≤ k) (h1 : k ≤ 4294967295) : Calls Tryz.prog 48 #[.int .i64 k] w fun e w' => e = .returned (.string (strOfNums (hex8 k))) ∧ Below w.heap.size w w' := by
  have HE := Lib.hid (hex8_eq k h0 h1)
  go_enter Tryz.func48, Tryz.ntmps48
  go_wp2_with fail
  rw [show k / 16777216 = k / 16777216 % 256 by omega]
  have hb : By [k / 16777216 % 256, k / 65536 % 256, k / 256 % 256, k % 256] := fun x hx => by
    simp at hx
    rcases hx with rfl | rfl | rfl | rfl <;> omega
  have hA := Bs.row (Row.new w 5 (U8 [k / 16777216 % 256, k / 65536 % 256, k / 256 % 256, k % 256]))
  refine (hex_any _ 4 4 [k / 16777216 % 256, k / 65536 % 256, k / 256 % 256, k % 256] _ hb hA rfl (Nat.le_refl _) (by decide)).mono ?_
  rintro e w1 ⟨rfl, hb1⟩
  have B1 := Lib.hid (bthen ((Below.refl w.heap.size w).alloc (Nat.le_refl _) _) hb1)
  clear hb1 hA hb
  rw [HE.out]
  go_wp2_with fail
  go_ret
  exact ⟨rfl, B1.out⟩
end Go.Proofs.YtfhbpgickkibmaaGreatDoor
namespace Go.Proofs.YtfhbpgickkibmaaGreatDoor
open Go.RowKit

theorem Row.nine {w : World} {b : Nat} {T : TypeId} {v0 v1 v2 v3 v4 v5 v6 v7 v8 : Value} (h : Row w b T [v0, v1, v2, v3, v4, v5, v6, v7, v8]) : w.cell? ⟨b, 0, none⟩ = some v0 ∧ w.cell? ⟨b, 1, none⟩ = some v1 ∧ w.cell? ⟨b, 2, none⟩ = some v2 ∧ w.cell? ⟨b, 3, none⟩ = some v3 ∧ w.cell? ⟨b, 4, none⟩ = some v4 ∧ w.cell? ⟨b, 5, none⟩ = some v5 ∧ w.cell? ⟨b, 6, none⟩ = some v6 ∧ w.cell? ⟨b, 7, none⟩ = some v7 ∧ w.cell? ⟨b, 8, none⟩ = some v8 :=
  ⟨h.cell 0, h.cell 1, h.cell 2, h.cell 3, h.cell 4, h.cell 5, h.cell 6, h.cell 7, h.cell 8⟩
theorem hex8_by (k : Int) (h0 : 0 ≤ k) : By (hex8 k) := fun x hx => by
  unfold hex8 at hx
  simp only [List.mem_cons, List.not_mem_nil, or_false] at hx
  rcases hx with rfl | rfl | rfl | rfl | rfl | rfl | rfl | rfl <;> exact hexC_by (by omega) (by omega)
theorem qope_eq (g : Bool) : byteL (⟨#[113, 111, 112, 61]⟩ ++ strOfNums (QUAL g)) = QOPE ++ (if g = true then AUTHI else AUTH) ∧ (⟨#[113, 111, 112, 61]⟩ ++ strOfNums (QUAL g) : ByteArray).size ≤ 9000000 := by
  rw [byteL_app, ByteArray.size_append, num_size]
  cases g
  · exact ⟨rfl, by decide⟩
  · exact ⟨rfl, by decide⟩
theorem nce_eq (k : Int) (h0 : 0 ≤ k) : byteL (⟨#[110, 99, 61]⟩ ++ strOfNums (hex8 k)) = NCE ++ hex8 k ∧ (⟨#[110, 99, 61]⟩ ++ strOfNums (hex8 k) : ByteArray).size ≤ 9000000 := by
  rw [byteL_app, ByteArray.size_append, num_size, byteL_str (hex8_by k h0)]
  exact ⟨rfl, by show 3 + 8 ≤ _; omega⟩
set_option maxRecDepth 100000 in
set_option maxHeartbeats 2000000 in
theorem printcr_any (us rs ns is ps cs os : ByteArray) (k : Int) (g : Bool) (w : World) (hu : us.size ≤ 4000000) (hr : rs.size ≤ 4000000) (hn : ns.size ≤ 4000000) (hi : is.size ≤ 4000000) (hp : ps.size ≤ 4000000) (hc : cs.size ≤ 4000000) (ho : os.size ≤ 4000000) :
    Calls Tryz.prog 14 #[.agg #[.string us, .string rs, .string ns, .string is, .string ps, .string cs, .string os, .int .i64 k, .bool g]] w fun e w' => e = .returned (prV (printCr ⟨byteL us, byteL rs, byteL ns, byteL is, byteL ps, byteL cs, byteL os, k, g⟩)) ∧ Below w.heap.size w w' := by
  have FIN := Lib.hid (writeCr_eq ⟨byteL us, byteL rs, byteL ns, byteL is, byteL ps, byteL cs, byteL os, k, g⟩)
  have NO := Lib.hid (fun (h : k < 0 ∨ 4294967295 < k) => show printCr ⟨byteL us, byteL rs, byteL ns, byteL is, byteL ps, byteL cs, byteL os, k, g⟩ = none from if_pos h)
  have PF := Lib.hid (prV_form (printCr ⟨byteL us, byteL rs, byteL ns, byteL is, byteL ps, byteL cs, byteL os, k, g⟩))
  have RB := Lib.hid (Row.new w 23 [.string us, .string rs, .string ns, .string is, .string ps, .string cs, .string os, .int .i64 k, .bool g])
  have B0 := Lib.hid ((Below.refl w.heap.size w).alloc (Nat.le_refl _) (.cells #[.string us, .string rs, .string ns, .string is, .string ps, .string cs, .string os, .int .i64 k, .bool g] 23))
  have H := Lib.hid (show WS (w.alloc (.cells #[.string us, .string rs, .string ns, .string is, .string ps, .string cs, .string os, .int .i64 k, .bool g] 23)) (w.heap.size + 1) (some []) 0 ((w.alloc (.cells #[.string us, .string rs, .string ns, .string is, .string ps, .string cs, .string os, .int .i64 k, .bool g] 23)).alloc (.cells #[.slice none 0 0, .bool false] 101)) by
    have h := WS.new (w.alloc (.cells #[.string us, .string rs, .string ns, .string is, .string ps, .string cs, .string os, .int .i64 k, .bool g] 23))
    rw [show (w.alloc (.cells #[.string us, .string rs, .string ns, .string is, .string ps, .string cs, .string os, .int .i64 k, .bool g] 23)).heap.size = w.heap.size + 1 by simp] at h
    exact h)
  go_enter Tryz.func14, Tryz.ntmps14
  have d7 := RB.out.nine.2.2.2.2.2.2.2.1
  by_cases hk0 : k < 0
  · have e0 : decide (k < 0) = true := by simp [hk0]
    have E := Lib.hid (NO.out (.inl hk0))
    go_wp2_with fail
    go_ret2
    exact ⟨by rw [E.out]; rfl, B0.out⟩
  · by_cases hk1 : 4294967295 < k
    · have e0 : decide (k < 0) = false := by simp; omega
      have e1 : decide (4294967295 < k) = true := by simp [hk1]
      have E := Lib.hid (NO.out (.inr hk1))
      clear hk0
      go_wp2_with fail
      go_ret2
      exact ⟨by rw [E.out]; rfl, B0.out⟩
    · have e0 : decide (k < 0) = false := by simp; omega
      have e1 : decide (4294967295 < k) = false := by simp; omega
      have k0 : 0 ≤ k := by omega
      have k1 : k ≤ 4294967295 := by omega
      have FI := Lib.hid (FIN.out (by dsimp only; rintro (h | h) <;> omega))
      have NE := Lib.hid (nce_eq k k0)
      have QE := Lib.hid (qope_eq g)
      clear hk0 hk1
      obtain ⟨c0, c1, c2, c3, c4, c5, c6, c7, c8⟩ := (RB.out.below H.out.bw).nine
      generalize hW : w.alloc (.cells #[.string us, .string rs, .string ns, .string is, .string ps, .string cs, .string os, .int .i64 k, .bool g] 23) = W at RB B0 H
      have HW := Lib.hid hW.symm
      rw [hW] at c0 c1 c2 c3 c4 c5 c6 c7 c8 d7
      clear hW
      go_wp2_with fail
      rw [← HW.out]
      refine (text_any _ _ _ _ ⟨#[117, 115, 101, 114, 110, 97, 109, 101]⟩ us _ H.out (by omega) (by decide) (by assumption)).mono ?_
      rintro e w3 ⟨rfl, h3⟩
      rw [show byteL ⟨#[117, 115, 101, 114, 110, 97, 109, 101]⟩ = USER from rfl] at h3
      replace H := Lib.hid h3
      obtain ⟨c0, c1, c2, c3, c4, c5, c6, c7, c8⟩ := (RB.out.below H.out.bw).nine
      clear h3
      go_wp2_with fail
      refine (text_any _ _ _ _ ⟨#[114, 101, 97, 108, 109]⟩ rs _ H.out (by omega) (by decide) (by assumption)).mono ?_
      rintro e w3 ⟨rfl, h3⟩
      rw [show byteL ⟨#[114, 101, 97, 108, 109]⟩ = REALM from rfl] at h3
      replace H := Lib.hid h3
      obtain ⟨c0, c1, c2, c3, c4, c5, c6, c7, c8⟩ := (RB.out.below H.out.bw).nine
      clear h3
      go_wp2_with fail
      refine (text_any _ _ _ _ ⟨#[110, 111, 110, 99, 101]⟩ ns _ H.out (by omega) (by decide) (by assumption)).mono ?_
      rintro e w3 ⟨rfl, h3⟩
      rw [show byteL ⟨#[110, 111, 110, 99, 101]⟩ = NONCE from rfl] at h3
      replace H := Lib.hid h3
      obtain ⟨c0, c1, c2, c3, c4, c5, c6, c7, c8⟩ := (RB.out.below H.out.bw).nine
      clear h3
      go_wp2_with fail
      refine (text_any _ _ _ _ ⟨#[117, 114, 105]⟩ is _ H.out (by omega) (by decide) (by assumption)).mono ?_
      rintro e w3 ⟨rfl, h3⟩
      rw [show byteL ⟨#[117, 114, 105]⟩ = URI from rfl] at h3
      replace H := Lib.hid h3
      obtain ⟨c0, c1, c2, c3, c4, c5, c6, c7, c8⟩ := (RB.out.below H.out.bw).nine
      clear h3
      go_wp2_with fail
      refine (text_any _ _ _ _ ⟨#[114, 101, 115, 112, 111, 110, 115, 101]⟩ ps _ H.out (by omega) (by decide) (by assumption)).mono ?_
      rintro e w3 ⟨rfl, h3⟩
      rw [show byteL ⟨#[114, 101, 115, 112, 111, 110, 115, 101]⟩ = RESP from rfl] at h3
      replace H := Lib.hid h3
      obtain ⟨c0, c1, c2, c3, c4, c5, c6, c7, c8⟩ := (RB.out.below H.out.bw).nine
      clear h3
      clear d7 e0 e1
      go_wp2_with fail
      refine (plain_any _ _ _ _ ⟨#[97, 108, 103, 111, 114, 105, 116, 104, 109, 61, 83, 72, 65, 45, 50, 53, 54]⟩ _ H.out (by omega) (by decide)).mono ?_
      rintro e w3 ⟨rfl, h3⟩
      rw [show byteL ⟨#[97, 108, 103, 111, 114, 105, 116, 104, 109, 61, 83, 72, 65, 45, 50, 53, 54]⟩ = ALGP from rfl] at h3
      replace H := Lib.hid h3
      obtain ⟨c0, c1, c2, c3, c4, c5, c6, c7, c8⟩ := (RB.out.below H.out.bw).nine
      clear h3
      go_wp2_with fail
      refine (text_any _ _ _ _ ⟨#[99, 110, 111, 110, 99, 101]⟩ cs _ H.out (by omega) (by decide) (by assumption)).mono ?_
      rintro e w3 ⟨rfl, h3⟩
      rw [show byteL ⟨#[99, 110, 111, 110, 99, 101]⟩ = CNONCE from rfl] at h3
      replace H := Lib.hid h3
      obtain ⟨c0, c1, c2, c3, c4, c5, c6, c7, c8⟩ := (RB.out.below H.out.bw).nine
      clear h3
      go_wp2_with fail
      refine (quality_any g _).mono ?_
      rintro e w3 ⟨rfl, rfl⟩
      have qz : (strOfNums (QUAL g)).size ≤ 100 := by rw [num_size]; cases g <;> decide
      go_wp2_with fail
      refine (plain_any _ _ _ _ _ _ H.out (by omega) QE.out.2).mono ?_
      rintro e w3 ⟨rfl, h3⟩
      rw [QE.out.1] at h3
      replace H := Lib.hid h3
      obtain ⟨c0, c1, c2, c3, c4, c5, c6, c7, c8⟩ := (RB.out.below H.out.bw).nine
      clear h3
      go_wp2_with fail
      refine (count_any k _ k0 k1).mono ?_
      rintro e w4 ⟨rfl, hb4⟩
      replace H := Lib.hid (H.out.below hb4)
      obtain ⟨c0, c1, c2, c3, c4, c5, c6, c7, c8⟩ := (RB.out.below H.out.bw).nine
      clear hb4
      have nz : (strOfNums (hex8 k)).size ≤ 100 := by rw [num_size]; show 8 ≤ _; omega
      go_wp2_with fail
      refine (plain_any _ _ _ _ _ _ H.out (by omega) NE.out.2).mono ?_
      rintro e w3 ⟨rfl, h3⟩
      rw [NE.out.1] at h3
      replace H := Lib.hid h3
      obtain ⟨c0, c1, c2, c3, c4, c5, c6, c7, c8⟩ := (RB.out.below H.out.bw).nine
      clear h3
      by_cases ho2 : os = ⟨#[]⟩
      · have OE := Lib.hid (fun (A B : Option (List (List Int))) => show (if byteL os = [] then A else B) = A from if_pos ((byteL_empty os).2 ho2))
        subst ho2
        go_wp2_with fail
        refine (result_any _ _ _ _ _ H.out (by omega)).mono ?_
        rintro e w4 ⟨rfl, hb4⟩
        have B4 := Lib.hid (bthen (bthen B0.out H.out.bw) hb4)
        have E := Lib.hid (FI.out.symm.trans (by unfold writeCr; simp only [OE.out]; rfl))
        rw [← E.out]
        clear hb4 E
        obtain ⟨pa, pk, hPV⟩ := PF.out
        rw [hPV]
        have PV := Lib.hid hPV
        clear hPV
        go_wp2_with fail
        go_ret2
        exact ⟨by rw [PV.out]; rfl, B4.out⟩
      · have OE := Lib.hid (fun (A B : Option (List (List Int))) => show (if byteL os = [] then A else B) = B from if_neg (fun h => ho2 ((byteL_empty os).1 h)))
        have ob : (os.toList == ([] : List UInt8)) = false := by
          rw [Bool.eq_false_iff]; intro h; apply ho2
          exact toList_inj.1 ((by simpa using h : os.toList = []).trans (by rw [ByteArray.toList_eq]))
        clear ho2
        go_wp2_with fail
        refine (text_any _ _ _ _ ⟨#[111, 112, 97, 113, 117, 101]⟩ os _ H.out (by omega) (by decide) (by assumption)).mono ?_
        rintro e w3 ⟨rfl, h3⟩
        rw [show byteL ⟨#[111, 112, 97, 113, 117, 101]⟩ = OPAQUE from rfl] at h3
        replace H := Lib.hid h3
        obtain ⟨c0, c1, c2, c3, c4, c5, c6, c7, c8⟩ := (RB.out.below H.out.bw).nine
        clear h3
        go_wp2_with fail
        refine (result_any _ _ _ _ _ H.out (by omega)).mono ?_
        rintro e w4 ⟨rfl, hb4⟩
        have B4 := Lib.hid (bthen (bthen B0.out H.out.bw) hb4)
        have E := Lib.hid (FI.out.symm.trans (by unfold writeCr; simp only [OE.out]; rfl))
        rw [← E.out]
        clear hb4 E
        obtain ⟨pa, pk, hPV⟩ := PF.out
        rw [hPV]
        have PV := Lib.hid hPV
        clear hPV
        go_wp2_with fail
        go_ret2
        exact ⟨by rw [PV.out]; rfl, B4.out⟩
end Go.Proofs.YtfhbpgickkibmaaGreatDoor
