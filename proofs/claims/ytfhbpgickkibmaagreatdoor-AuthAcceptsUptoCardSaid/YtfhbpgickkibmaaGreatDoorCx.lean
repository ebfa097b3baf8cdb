/- Contracts: quality; the reference 07's get, has, words, among. Contract: auth.ParseChallenge. -/
import Derived.Test.YtfhbpgickkibmaaGreatDoorCv
import Derived.Test.YtfhbpgickkibmaaGreatDoorPj
namespace Go.Proofs.YtfhbpgickkibmaaGreatDoor
open Go.RowKit

def QUAL (b : Bool) : List Int := if b = true then [97, 117, 116, 104, 45, 105, 110, 116] else [97, 117, 116, 104]
theorem quality_any (b : Bool) (w : World) : Calls Tryz.prog 39 #[.bool b] w fun e w' => e = .returned (.string (strOfNums (QUAL b))) ∧ w = w' := by
  go_enter Tryz.func39, Tryz.ntmps39
  cases b
  · go_wp2
    go_ret
    exact ⟨rfl, rfl⟩
  · go_wp2
    go_ret
    exact ⟨rfl, rfl⟩
def gotL (ps : List Prm) (nm : List Int) : List Int := (getP ps nm).getD []
def hasL (ps : List Prm) (ns : List (List Int)) : Bool := ns.all fun n => (getP ps n).isSome
def amongL (zs : List ByteArray) (x : ByteArray) : Bool := (zs.map byteL).contains (byteL x)
end Go.Proofs.YtfhbpgickkibmaaGreatDoor
namespace Go.Proofs.YtfhbpgickkibmaaGreatDoor
open Go.RowKit

theorem size5 : (Tryz.prog.info? 36).map (·.size) = some 5 := by kernel_rfl
abbrev Z5 : List Value := [.string ⟨#[]⟩, .string ⟨#[]⟩, .string ⟨#[]⟩, .bool false, .bool false]
theorem sizeL5 (a b c d e : Value) : (Tryz.prog.info? 36).map (·.size) = some [a, b, c, d, e].length := size5
theorem lenL5 (a b c d e a' b' c' d' e' : Value) : [a, b, c, d, e].length = [a', b', c', d', e'].length := rfl
theorem p5_one (a b c : ByteArray) (h g : Bool) : ∀ u ∈ [Value.string a, .string b, .string c, .bool h, .bool g], u.oneCell' = true := fun u hu => by
  simp at hu
  rcases hu with rfl | rfl | rfl | rfl | rfl <;> rfl
theorem findl_any (w : World) (mb cb : Nat) (l : List (List Int × List Int)) (s : ByteArray) (hc : w.cell? ⟨cb, 0, none⟩ = some (.map (some mb))) (hm : MapIs w mb l) :
    Calls Tryz.prog 76 #[.string s, .pointer (some ⟨cb, 0, none⟩)] w fun e w' => e = .returned (.tuple #[.string (strOfNums (gotF l (byteL s))), .bool (getF l (byteL s)).isSome]) ∧ w = w' := by
  have h := findw_any w mb cb l (byteL s) (byteL_by s) hc hm
  rw [str_byteL] at h
  refine h.mono fun e w' ⟨he, hw⟩ => ⟨?_, hw⟩
  rw [he]
  unfold gotF
  cases getF l (byteL s) <;> rfl
/-- The slice of texts that Split made, at any length. -/
theorem contains_any (zs : List ByteArray) (n c b : Nat) (x : ByteArray) (w : World) (T : TypeId) (hn : zs.length = n) (hz : n ≤ 16000000) (hR : Row w b T (zs.map Value.string)) :
    Calls Tryz.prog 73 #[.slice (some ⟨b, 0, none⟩) n c, .string x] w fun e w' => e = .returned (.bool (amongL zs x)) ∧ w = w' := by
  subst hn
  refine (Tryz.slices_Contains_string b 0 zs.length c zs x w (Nat.le_refl _) (by omega) fun j hj => ?_).mono fun e w' ⟨he, hw⟩ => ⟨by rw [he, List.take_length, contains_by]; rfl, hw.symm⟩
  rw [Nat.zero_add, hR.cell j, List.getElem?_map, List.getElem?_eq_getElem hj, List.getD_eq_getElem?_getD, List.getElem?_eq_getElem hj]
  rfl
/-- What the walk keeps of memory: the result's block, the closure's map. -/
structure CM (w : World) (cb mb : Nat) (l : List (List Int × List Int)) (wr : World) : Prop where
  bw : Below w.heap.size w wr
  r : Row wr w.heap.size 36 Z5
  c : wr.cell? ⟨cb, 0, none⟩ = some (.map (some mb))
  lt : cb < wr.heap.size
  m : MapIs wr mb l
theorem CM.below {w : World} {cb mb : Nat} {l : List (List Int × List Int)} {wr w' : World} (h : CM w cb mb l wr) (hb : Below wr.heap.size wr w') : CM w cb mb l w' :=
  ⟨bthen h.bw hb, h.r.below hb, (hb.cell (p := ⟨cb, 0, none⟩) h.lt).trans h.c, Nat.lt_of_lt_of_le h.lt hb.size, h.m.below hb⟩
/-- The words trimmed in place: what is kept over the loop, b the block of the words, w2 the world that Split found. -/
structure WM (w2 : World) (b n k : Nat) (D : List (List Int)) (wr : World) : Prop where
  bw : Below w2.heap.size w2 wr
  ge : w2.heap.size ≤ b
  ex : ∃ ys : List ByteArray, ys.length = n ∧ Row wr b 9 (ys.map Value.string) ∧ ys.map byteL = (D.take k).map trimB ++ D.drop k
theorem WM.below {w2 : World} {b n k : Nat} {D : List (List Int)} {wr w' : World} (h : WM w2 b n k D wr) (hb : Below wr.heap.size wr w') : WM w2 b n k D w' := by
  obtain ⟨ys, h1, h2, h3⟩ := h.ex
  exact ⟨bthen h.bw hb, h.ge, ys, h1, h2.below hb, h3⟩
theorem WM.at {w2 : World} {b n k : Nat} {D : List (List Int)} {wr : World} (h : WM w2 b n k D wr) (hD : D.length = n) (hk : k < n) : ∃ z, byteL z = D.getD k [] ∧ wr.cell? ⟨b, k, none⟩ = some (.string z) ∧ wr.frozen? ⟨b, k, none⟩ = false := by
  obtain ⟨ys, h1, h2, h3⟩ := h.ex
  have hl : k < ys.length := by omega
  refine ⟨ys[k], ?_, ?_, h2.frozen k⟩
  · have h4 : (ys.map byteL)[k]? = D[k]? := by
      rw [h3, List.getElem?_append_right (by simp; omega), List.getElem?_drop]
      congr 1
      simp; omega
    rw [List.getElem?_map, List.getElem?_eq_getElem hl, List.getElem?_eq_getElem (by omega)] at h4
    rw [List.getD_eq_getElem?_getD, List.getElem?_eq_getElem (by omega)]
    simpa using h4
  · rw [h2.cell k, List.getElem?_map, List.getElem?_eq_getElem hl]; rfl
theorem WM.put {w2 : World} {b n k : Nat} {D : List (List Int)} {wr : World} (h : WM w2 b n k D wr) (hD : D.length = n) (hk : k < n) (t : ByteArray) (ht : byteL t = trimB (D.getD k [])) : WM w2 b n (k + 1) D (wr.setCell ⟨b, k, none⟩ (.string t)) := by
  obtain ⟨ys, h1, h2, h3⟩ := h.ex
  refine ⟨h.bw.setCell (p := ⟨b, k, none⟩) h.ge _, h.ge, ys.set k t, by simpa using h1, ?_, ?_⟩
  · rw [List.map_set]
    exact h2.set k _
  · have hkD : k < D.length := by omega
    rw [List.map_set, h3, ht, List.set_append_right _ _ (by simp; omega), List.take_succ_eq_append_getElem hkD, List.map_append, List.drop_eq_getElem_cons hkD]
    have e : k - ((D.take k).map trimB).length = 0 := by simp; omega
    rw [e, List.set_cons_zero, List.getD_eq_getElem?_getD, List.getElem?_eq_getElem hkD]
    simp
set_option maxRecDepth 100000 in
set_option maxHeartbeats 1000000 in
theorem parsech_any (s : ByteArray) (w : World) (hs : s.size ≤ 4000000) (hm : GM w) : Calls Tryz.prog 35 #[.string s] w fun e w' => e = .returned (chV (parseCh (byteL s))) ∧ Below w.heap.size w w' := by
  have HG := Lib.hid hm
  clear hm
  have PF := Lib.hid (fun l (h : fieldsL (byteL s) = .ok l) => show parseCh (byteL s) = if (getF l REALM).isSome = false ∨ (getF l NONCE).isSome = false then .error 8
    else if lowS (gotF l ALG) ≠ SHA ∨ (wordsL (gotF l QOP)).contains AUTH = false then .error 15
    else .ok ⟨gotF l REALM, gotF l NONCE, gotF l OPAQUE, (wordsL (gotF l QOP)).contains AUTHI, lowS (gotF l STALE) == TRUE⟩ by unfold parseCh; rw [h])
  have PB := Lib.hid (fun k (h : fieldsL (byteL s) = .error k) => show chV (parseCh (byteL s)) = .tuple #[.agg Z5.toArray, .int .u8 k] by unfold parseCh; rw [h]; rfl)
  have FO := Lib.hid (fun l (h : fieldsL (byteL s) = .ok l) => (fieldsL_ok (byteL_by s) (by rw [byteL_len]; omega) h).1)
  have VB := Lib.hid (fun k (h : parseCh (byteL s) = .error k) => show chV (parseCh (byteL s)) = .tuple #[.agg Z5.toArray, .int .u8 k] by rw [h]; rfl)
  have VY := Lib.hid (fun c (h : parseCh (byteL s) = .ok c) => show chV (parseCh (byteL s)) = .tuple #[.agg (chC c).toArray, .int .u8 0] by rw [h]; rfl)
  generalize hV : chV (parseCh (byteL s)) = VV at *
  clear hV
  generalize hP : parseCh (byteL s) = PP at *
  clear hP
  have R0 := Lib.hid (Row.new w 36 Z5)
  have B0 := Lib.hid ((Below.refl w.heap.size w).alloc (Nat.le_refl _) (.cells Z5.toArray 36))
  go_enter Tryz.func35, Tryz.ntmps35
  go_wp2_with fail
  refine (fields_any s _ hs).mono ?_
  rintro e w1 ⟨hb1, hp⟩
  have B1 := Lib.hid (bthen B0.out hb1)
  have R1 := Lib.hid (R0.out.below hb1)
  clear hb1 R0 B0
  cases hF : fieldsL (byteL s) with
  | error k =>
    rw [hF] at hp
    subst hp
    have hb : (k != 0) = true := by simpa using fieldsL_err hF
    have E := Lib.hid (PB.out k hF)
    clear hF
    go_wp2_with (with_reducible refine wpList_storeR rfl 36 (.tmp 2) (.tmp 28) rfl R1.out Z5 rfl rfl (lenL5 _ _ _ _ _ _ _ _ _ _) (sizeL5 _ _ _ _ _) (p5_one _ _ _ _ _) B1.out (Nat.le_refl _) ?_)
    intro w3 R3 B3 _
    go_wp2_with fail
    exact bodyPost_ret (results_ct rfl _ _ _ w.heap.size Z5 _ rfl R3.out.range Tryz.underlying36 rfl size5) rfl ⟨by rw [E.out]; rfl, B3.out⟩
  | ok l =>
    rw [hF] at hp
    obtain ⟨cb, mb, rfl, hc, hlt, hmm⟩ := hp
    have M1 := Lib.hid (show CM w cb mb l w1 from ⟨B1.out, R1.out, hc, hlt, hmm⟩)
    have PE := Lib.hid (PF.out l hF)
    have AO := Lib.hid (gotF_ok ALG (FO.out l hF))
    have QO := Lib.hid (gotF_ok QOP (FO.out l hF))
    have SO := Lib.hid (gotF_ok STALE (FO.out l hF))
    clear hc hlt hmm hF B1 R1 PF PB FO
    go_wp2_with fail
    refine (findl_any w1 mb cb l _ M1.out.c M1.out.m).mono ?_
    rintro e w2 ⟨rfl, rfl⟩
    rw [show byteL ⟨#[114, 101, 97, 108, 109]⟩ = REALM from rfl]
    generalize (getF l REALM).isSome = b1 at *
    generalize gotF l REALM = gr at *
    go_wp2_with fail
    refine (findl_any w1 mb cb l _ M1.out.c M1.out.m).mono ?_
    rintro e w2 ⟨rfl, rfl⟩
    rw [show byteL ⟨#[110, 111, 110, 99, 101]⟩ = NONCE from rfl]
    generalize (getF l NONCE).isSome = b2 at *
    generalize gotF l NONCE = gn at *
    by_cases hbb : b1 = false ∨ b2 = false
    · have E := Lib.hid (VB.out 8 (PE.out.trans (if_pos hbb)))
      rcases hbb with rfl | rfl
      · go_wp2_with (with_reducible refine wpList_storeR rfl 36 (.tmp 2) (.tmp 46) rfl M1.out.r Z5 rfl rfl (lenL5 _ _ _ _ _ _ _ _ _ _) (sizeL5 _ _ _ _ _) (p5_one _ _ _ _ _) M1.out.bw (Nat.le_refl _) ?_)
        intro w3 R3 B3 _
        go_wp2_with fail
        exact bodyPost_ret (results_ct rfl _ _ _ w.heap.size Z5 _ rfl R3.out.range Tryz.underlying36 rfl size5) rfl ⟨by rw [E.out]; rfl, B3.out⟩
      · cases b1
        · go_wp2_with (with_reducible refine wpList_storeR rfl 36 (.tmp 2) (.tmp 46) rfl M1.out.r Z5 rfl rfl (lenL5 _ _ _ _ _ _ _ _ _ _) (sizeL5 _ _ _ _ _) (p5_one _ _ _ _ _) M1.out.bw (Nat.le_refl _) ?_)
          intro w3 R3 B3 _
          go_wp2_with fail
          exact bodyPost_ret (results_ct rfl _ _ _ w.heap.size Z5 _ rfl R3.out.range Tryz.underlying36 rfl size5) rfl ⟨by rw [E.out]; rfl, B3.out⟩
        · go_wp2_with (with_reducible refine wpList_storeR rfl 36 (.tmp 2) (.tmp 46) rfl M1.out.r Z5 rfl rfl (lenL5 _ _ _ _ _ _ _ _ _ _) (sizeL5 _ _ _ _ _) (p5_one _ _ _ _ _) M1.out.bw (Nat.le_refl _) ?_)
          intro w3 R3 B3 _
          go_wp2_with fail
          exact bodyPost_ret (results_ct rfl _ _ _ w.heap.size Z5 _ rfl R3.out.range Tryz.underlying36 rfl size5) rfl ⟨by rw [E.out]; rfl, B3.out⟩
    · have PE1 := Lib.hid (PE.out.trans (if_neg hbb))
      obtain rfl : b1 = true := by cases b1 <;> simp_all
      obtain rfl : b2 = true := by cases b2 <;> simp_all
      clear hbb PE
      go_wp2_with fail
      refine (findl_any w1 mb cb l _ M1.out.c M1.out.m).mono ?_
      rintro e w2 ⟨rfl, rfl⟩
      rw [show byteL ⟨#[97, 108, 103, 111, 114, 105, 116, 104, 109]⟩ = ALG from rfl]
      generalize (getF l ALG).isSome = b3 at *
      generalize gotF l ALG = ga at *
      go_wp2_with fail
      refine (lower_any _ _ (by rw [num_size]; exact AO.out.2)).mono ?_
      rintro e w2 ⟨rfl, hb2⟩
      have M2 := Lib.hid (M1.out.below hb2)
      clear hb2 M1
      rw [byteL_str AO.out.1]
      have BL := Lib.hid (lowS_by AO.out.1)
      have DQ := Lib.hid (show (strOfNums (lowS ga)).toList = [115, 104, 97, 45, 50, 53, 54] ↔ lowS ga = SHA from lit_eq BL.out _)
      generalize lowS ga = LW at *
      by_cases hD : LW = SHA
      · have q := DQ.out.2 hD
        have HD := Lib.hid hD
        clear hD
        go_wp2_with fail
        clear q
        refine (findl_any w2 mb cb l _ M2.out.c M2.out.m).mono ?_
        rintro e w3 ⟨rfl, rfl⟩
        rw [show byteL ⟨#[113, 111, 112]⟩ = QOP from rfl]
        generalize (getF l QOP).isSome = b4 at *
        generalize gotF l QOP = gq at *
        have g2 : GM w2 := HG.out.below M2.out.bw
        go_wp2_with fail
        refine (split_any _ 44 w2 (by rw [num_size]; exact QO.out.2) g2).mono ?_
        rintro e w3 ⟨zs, hz, rfl, rfl⟩
        clear g2
        rw [byteL_str QO.out.1, show (((44 : UInt8).toNat : Nat) : Int) = 44 from rfl] at hz
        have CS := Lib.hid (cutL_sub 44 gq)
        have WL := Lib.hid (show wordsL gq = (cutL 44 gq).map trimB from rfl)
        generalize hDD : cutL 44 gq = D at *
        clear hDD
        have DL := Lib.hid (show D.length = zs.length by rw [← hz, List.length_map])
        have W3 := Lib.hid (show WM w2 w2.heap.size zs.length 0 D (w2.alloc (.cells (zs.map Value.string).toArray 9)) from ⟨(Below.refl _ _).alloc (Nat.le_refl _) _, Nat.le_refl _, zs, rfl, Row.new _ _ _, by rw [hz]; rfl⟩)
        clear hz
        have hn : zs.length ≤ 4000001 := by have h1 := CS.out.2; have h2 := QO.out.2; rw [DL.out] at h1; omega
        generalize zs.length = n at *
        generalize hww : w2.alloc (.cells (zs.map Value.string).toArray 9) = w3 at *
        clear hww
        go_wp2_with fail
        go_loopw [65] (fun v wr => ∃ k : Nat, k ≤ n ∧ v = .int .i64 k ∧ Hid (WM w2 w2.heap.size n k D wr)) (fun v _ => n - (intOf v).toNat)
        case atStart => exact ⟨0, Nat.zero_le _, rfl, W3⟩
        case round =>
          clear W3
          obtain ⟨k, hk, rfl, H⟩ := hrel
          by_cases hlt : k < n
          · obtain ⟨z, hz1, hz2, hz3⟩ := H.out.at DL.out hlt
            have hd : decide (k < n) = true := by simp [hlt]
            have ZS := Lib.hid (show z.size ≤ 4000000 by
              have h1 := (CS.out.1 (D.getD k []) (by rw [List.getD_eq_getElem?_getD, List.getElem?_eq_getElem (by rw [DL.out]; exact hlt)]; exact List.getElem_mem _)).length_le
              have h2 := QO.out.2
              rw [← hz1, byteL_len] at h1
              omega)
            have HZ := Lib.hid hz1
            clear hz1 hz3
            go_wp2_with fail
            clear hz2
            refine (trim_any z _ ZS.out).mono ?_
            rintro e w4 ⟨rfl, hb4⟩
            have H4 := Lib.hid (H.out.below hb4)
            obtain ⟨z2, hz1, hz2, hz3⟩ := H4.out.at DL.out hlt
            have H5 := Lib.hid (H4.out.put DL.out hlt (strOfNums (trimB (byteL z))) (by rw [byteL_str ((byteL_by z).sub (trimB_sub _)), HZ.out]))
            clear hb4 H hz1
            go_wp2_with fail
            go_roundw
            case rel => exact ⟨k + 1, by omega, by go_num, H5⟩
            case measure => simp [intOf]; omega
          · obtain rfl : k = n := by omega
            have M4 := Lib.hid (M2.out.below H.out.bw)
            obtain ⟨ys, hy1, hy2, hy3⟩ := H.out.ex
            have YR := Lib.hid hy2
            have YL := Lib.hid hy1
            have YB := Lib.hid (show ys.map byteL = wordsL gq by
              rw [hy3, WL.out, List.take_of_length_le (by rw [DL.out]; exact Nat.le_refl _), List.drop_of_length_le (by rw [DL.out]; exact Nat.le_refl _), List.append_nil])
            have YBY := Lib.hid (wordsL_by QO.out.1)
            clear hy1 hy2 hy3 H M2
            go_wp2_with fail
            refine (quality_any false _).mono ?_
            rintro e w4 ⟨rfl, rfl⟩
            go_wp2_with fail
            refine (contains_any ys k k w2.heap.size _ _ _ YL.out (by omega) YR.out).mono ?_
            rintro e w4 ⟨rfl, rfl⟩
            have CA := Lib.hid (show amongL ys (strOfNums (QUAL false)) = (wordsL gq).contains AUTH by unfold amongL; rw [YB.out]; rfl)
            rw [CA.out]
            generalize (wordsL gq).contains AUTH = ca at *
            clear CA
            cases ca with
            | false =>
              have E := Lib.hid (VB.out 15 (PE1.out.trans (if_pos (.inr rfl))))
              go_wp2_with (with_reducible refine wpList_storeR rfl 36 (.tmp 2) (.tmp 80) rfl M4.out.r Z5 rfl rfl (lenL5 _ _ _ _ _ _ _ _ _ _) (sizeL5 _ _ _ _ _) (p5_one _ _ _ _ _) M4.out.bw (Nat.le_refl _) ?_)
              intro w5 R5 B5 _
              go_wp2_with fail
              exact bodyPost_ret (results_ct rfl _ _ _ w.heap.size Z5 _ rfl R5.out.range Tryz.underlying36 rfl size5) rfl ⟨by rw [E.out]; rfl, B5.out⟩
            | true =>
              have PE2 := Lib.hid (PE1.out.trans (if_neg (by rw [HD.out]; rintro (h | h); exact h rfl; cases h)))
              clear PE1
              go_wp2_with fail
              refine (findl_any wr mb cb l _ M4.out.c M4.out.m).mono ?_
              rintro e w5 ⟨rfl, rfl⟩
              rw [show byteL ⟨#[111, 112, 97, 113, 117, 101]⟩ = OPAQUE from rfl]
              generalize (getF l OPAQUE).isSome = b5 at *
              generalize gotF l OPAQUE = gp at *
              go_wp2_with fail
              refine (findl_any wr mb cb l _ M4.out.c M4.out.m).mono ?_
              rintro e w5 ⟨rfl, rfl⟩
              rw [show byteL ⟨#[115, 116, 97, 108, 101]⟩ = STALE from rfl]
              generalize (getF l STALE).isSome = b6 at *
              generalize gotF l STALE = gs at *
              go_wp2_with fail
              refine (quality_any true _).mono ?_
              rintro e w4 ⟨rfl, rfl⟩
              go_wp2_with fail
              refine (contains_any ys k k w2.heap.size _ _ _ YL.out (by omega) YR.out).mono ?_
              rintro e w4 ⟨rfl, rfl⟩
              have CA := Lib.hid (show amongL ys (strOfNums (QUAL true)) = (wordsL gq).contains AUTHI by unfold amongL; rw [YB.out]; rfl)
              rw [CA.out]
              generalize (wordsL gq).contains AUTHI = ci at *
              clear CA YR YL YB YBY
              go_wp2_with fail
              refine (lower_any _ _ (by rw [num_size]; exact SO.out.2)).mono ?_
              rintro e w5 ⟨rfl, hb5⟩
              have M5 := Lib.hid (M4.out.below hb5)
              clear hb5 M4
              rw [byteL_str SO.out.1]
              have BS := Lib.hid (lowS_by SO.out.1)
              have DS := Lib.hid (show (strOfNums (lowS gs)).toList = [116, 114, 117, 101] ↔ lowS gs = TRUE from lit_eq BS.out _)
              generalize lowS gs = LS at *
              by_cases hT : LS = TRUE
              · have q := DS.out.2 hT
                have E := Lib.hid (VY.out ⟨gr, gn, gp, ci, true⟩ (PE2.out.trans (by rw [hT]; rfl)))
                clear hT PE2
                go_wp2_with (with_reducible refine wpList_storeR rfl 36 (.tmp 2) (.tmp 100) rfl M5.out.r [.string (strOfNums gr), .string (strOfNums gn), .string (strOfNums gp), .bool ci, .bool true] rfl rfl (lenL5 _ _ _ _ _ _ _ _ _ _) (sizeL5 _ _ _ _ _) (p5_one _ _ _ _ _) M5.out.bw (Nat.le_refl _) ?_)
                intro w6 R6 B6 _
                go_wp2_with fail
                exact bodyPost_ret (results_ct rfl _ _ _ w.heap.size [.string (strOfNums gr), .string (strOfNums gn), .string (strOfNums gp), .bool ci, .bool true] _ rfl R6.out.range Tryz.underlying36 rfl size5) rfl ⟨by rw [E.out]; rfl, B6.out⟩
              · have q : ((strOfNums LS).toList == ([116, 114, 117, 101] : List UInt8)) = false := by
                  rw [Bool.eq_false_iff]; intro h; exact hT (DS.out.1 (by simpa using h))
                have E := Lib.hid (VY.out ⟨gr, gn, gp, ci, false⟩ (PE2.out.trans (by
                  rw [show (LS == TRUE) = false by rw [Bool.eq_false_iff]; intro h; exact hT (by simpa using h)])))
                have q2 := fun h => hT (DS.out.1 h)
                clear hT PE2
                go_wp2_with (with_reducible refine wpList_storeR rfl 36 (.tmp 2) (.tmp 100) rfl M5.out.r [.string (strOfNums gr), .string (strOfNums gn), .string (strOfNums gp), .bool ci, .bool false] rfl rfl (lenL5 _ _ _ _ _ _ _ _ _ _) (sizeL5 _ _ _ _ _) (p5_one _ _ _ _ _) M5.out.bw (Nat.le_refl _) ?_)
                intro w6 R6 B6 _
                go_wp2_with fail
                exact bodyPost_ret (results_ct rfl _ _ _ w.heap.size [.string (strOfNums gr), .string (strOfNums gn), .string (strOfNums gp), .bool ci, .bool false] _ rfl R6.out.range Tryz.underlying36 rfl size5) rfl ⟨by rw [E.out]; rfl, B6.out⟩
      · have q : ((strOfNums LW).toList == ([115, 104, 97, 45, 50, 53, 54] : List UInt8)) = false := by
          rw [Bool.eq_false_iff]; intro h; exact hD (DQ.out.1 (by simpa using h))
        have E := Lib.hid (VB.out 15 (PE1.out.trans (if_pos (.inl hD))))
        clear hD
        go_wp2_with (with_reducible refine wpList_storeR rfl 36 (.tmp 2) (.tmp 55) rfl M2.out.r Z5 rfl rfl (lenL5 _ _ _ _ _ _ _ _ _ _) (sizeL5 _ _ _ _ _) (p5_one _ _ _ _ _) M2.out.bw (Nat.le_refl _) ?_)
        intro w3 R3 B3 _
        go_wp2_with fail
        exact bodyPost_ret (results_ct rfl _ _ _ w.heap.size Z5 _ rfl R3.out.range Tryz.underlying36 rfl size5) rfl ⟨by rw [E.out]; rfl, B3.out⟩
end Go.Proofs.YtfhbpgickkibmaaGreatDoor
