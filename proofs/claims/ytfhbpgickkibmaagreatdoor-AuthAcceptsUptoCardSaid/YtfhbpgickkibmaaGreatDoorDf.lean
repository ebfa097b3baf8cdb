/- Memory words of ParseCredentials. Contract: auth.ParseCredentials. -/
import Derived.Test.YtfhbpgickkibmaaGreatDoorDc
import Derived.Test.YtfhbpgickkibmaaGreatDoorPj
namespace Go.Proofs.YtfhbpgickkibmaaGreatDoor
open Go.RowKit

theorem size9 : (Tryz.prog.info? 23).map (·.size) = some 9 := by kernel_rfl
abbrev Z9 : List Value := [.string ⟨#[]⟩, .string ⟨#[]⟩, .string ⟨#[]⟩, .string ⟨#[]⟩, .string ⟨#[]⟩, .string ⟨#[]⟩, .string ⟨#[]⟩, .int .i64 0, .bool false]
theorem sizeL9 (a b c d e f g h i : Value) : (Tryz.prog.info? 23).map (·.size) = some [a, b, c, d, e, f, g, h, i].length := size9
theorem lenL9 (a b c d e f g h i a' b' c' d' e' f' g' h' i' : Value) : [a, b, c, d, e, f, g, h, i].length = [a', b', c', d', e', f', g', h', i'].length := rfl
theorem p9_one (a b c d e f g : ByteArray) (k : Int) (h : Bool) : ∀ u ∈ [Value.string a, .string b, .string c, .string d, .string e, .string f, .string g, .int .i64 k, .bool h], u.oneCell' = true := fun u hu => by
  simp at hu
  rcases hu with rfl | rfl | rfl | rfl | rfl | rfl | rfl | rfl | rfl <;> rfl
theorem sizeI (a b : Value) : (Tryz.prog.info? 86).map (·.size) = some [a, b].length := by
  have h : (Tryz.prog.info? 86).map (·.size) = some 2 := by kernel_rfl
  exact h
theorem i2_one (a : ByteArray) (p : Option Addr) : ∀ u ∈ [Value.string a, .pointer p], u.oneCell' = true := fun u hu => by
  simp at hu
  rcases hu with rfl | rfl <;> rfl
/-- What the walk keeps of memory: the result's block, the closure's map, the credentials' block B with these values, the count's text. -/
structure CB (w : World) (B cb mb : Nat) (l : List (List Int × List Int)) (vs : List Value) (nv : Value) (wr : World) : Prop where
  bw : Below w.heap.size w wr
  r : Row wr w.heap.size 23 Z9
  c : wr.cell? ⟨cb, 0, none⟩ = some (.map (some mb))
  m : MapIs wr mb l
  b : Row wr B 23 vs
  n : Row wr (B + 1) 9 [nv]
  h : w.heap.size < B ∧ cb < B ∧ mb < B
theorem CB.below {w : World} {B cb mb : Nat} {l : List (List Int × List Int)} {vs : List Value} {nv : Value} {wr w' : World} (h : CB w B cb mb l vs nv wr) (hb : Below wr.heap.size wr w') : CB w B cb mb l vs nv w' :=
  ⟨bthen h.bw hb, h.r.below hb, (hb.cell (p := ⟨cb, 0, none⟩) (by show cb < _; have := h.b.lt; have := h.h; omega)).trans h.c, h.m.below hb, h.b.below hb, h.n.below hb, h.h⟩
theorem CB.set {w : World} {B cb mb : Nat} {l : List (List Int × List Int)} {vs : List Value} {nv : Value} {wr : World} (h : CB w B cb mb l vs nv wr) (o : Nat) (u : Value) : CB w B cb mb l (vs.set o u) nv (wr.setCell ⟨B, o, none⟩ u) := by
  have hh := h.h
  have hk : ∀ b, b ≠ B → (wr.setCell ⟨B, o, none⟩ u).heap[b]? = wr.heap[b]? := fun b hb => Below.heap_setCell wr ⟨B, o, none⟩ u b hb
  exact ⟨h.bw.setCell (p := ⟨B, o, none⟩) (Nat.le_of_lt hh.1) _, h.r.of (hk _ (by omega)), (World.cell?_of_block (a := ⟨cb, 0, none⟩) (hk cb (by omega))).trans h.c, h.m.heap (hk _ (by omega)), h.b.set o u, h.n.of (hk _ (by omega)), hh⟩
theorem CB.setN {w : World} {B cb mb : Nat} {l : List (List Int × List Int)} {vs : List Value} {nv : Value} {wr : World} (h : CB w B cb mb l vs nv wr) (u : Value) : CB w B cb mb l vs u (wr.setCell ⟨B + 1, 0, none⟩ u) := by
  have hh := h.h
  have hk : ∀ b, b ≠ B + 1 → (wr.setCell ⟨B + 1, 0, none⟩ u).heap[b]? = wr.heap[b]? := fun b hb => Below.heap_setCell wr ⟨B + 1, 0, none⟩ u b hb
  exact ⟨h.bw.setCell (p := ⟨B + 1, 0, none⟩) (by show _ ≤ B + 1; omega) _, h.r.of (hk _ (by omega)), (World.cell?_of_block (a := ⟨cb, 0, none⟩) (hk cb (by omega))).trans h.c, h.m.heap (hk _ (by omega)), h.b.of (hk _ (by omega)), h.n.set 0 u, hh⟩
/-- The value of a wanted field after i rounds. -/
def vv (l : List (List Int × List Int)) (i j : Nat) : Value := .string (if j < i then strOfNums (gotF l (NMS.getD j [])) else ⟨#[]⟩)
def crL (l : List (List Int × List Int)) (i : Nat) : List Value := [vv l i 0, vv l i 1, vv l i 2, vv l i 3, vv l i 4, vv l i 5, .string ⟨#[]⟩, .int .i64 0, .bool false]
def items (B : Nat) : List Value := [.string ⟨#[117, 115, 101, 114, 110, 97, 109, 101]⟩, .pointer (some ⟨B, 0, none⟩), .string ⟨#[114, 101, 97, 108, 109]⟩, .pointer (some ⟨B, 1, none⟩), .string ⟨#[110, 111, 110, 99, 101]⟩, .pointer (some ⟨B, 2, none⟩),
  .string ⟨#[117, 114, 105]⟩, .pointer (some ⟨B, 3, none⟩), .string ⟨#[114, 101, 115, 112, 111, 110, 115, 101]⟩, .pointer (some ⟨B, 4, none⟩), .string ⟨#[99, 110, 111, 110, 99, 101]⟩, .pointer (some ⟨B, 5, none⟩), .string ⟨#[110, 99]⟩, .pointer (some ⟨B + 1, 0, none⟩)]
structure CS (w : World) (B cb mb : Nat) (l : List (List Int × List Int)) (i : Nat) (wr : World) : Prop where
  b : CB w B cb mb l (crL l i) (vv l i 6) wr
  s : Row wr (B + 2) 86 (items B)
theorem CS.below {w : World} {B cb mb : Nat} {l : List (List Int × List Int)} {i : Nat} {wr w' : World} (h : CS w B cb mb l i wr) (hb : Below wr.heap.size wr w') : CS w B cb mb l i w' := ⟨h.b.below hb, h.s.below hb⟩
/-- One round: the name and the place of its text. -/
def CAt (w : World) (B cb mb : Nat) (l : List (List Int × List Int)) (i : Nat) (nm : ByteArray) (pb po : Nat) : Prop :=
  byteL nm = NMS.getD i [] ∧ ∀ wr, CS w B cb mb l i wr → wr.rangeAt (B + 2) (i * 2) [.string nm, .pointer (some ⟨pb, po, none⟩)] ∧ wr.cell? ⟨pb, po, none⟩ = some (.string ⟨#[]⟩) ∧ wr.frozen? ⟨pb, po, none⟩ = false ∧ CS w B cb mb l (i + 1) (wr.setCell ⟨pb, po, none⟩ (.string (strOfNums (gotF l (NMS.getD i [])))))
theorem items_range {wr : World} {B i : Nat} {T : TypeId} {a b : Value} (h : Row wr (B + 2) T (items B)) (ha : (items B)[i * 2]? = some a) (hb : (items B)[i * 2 + 1]? = some b) : wr.rangeAt (B + 2) (i * 2) [a, b] := fun j u hu => by
  rw [h.cell]
  match j, hu with
  | 0, hu => cases hu; exact ha
  | 1, hu => cases hu; exact hb
theorem catB (w : World) (B cb mb : Nat) (l : List (List Int × List Int)) (i : Nat) (nm : ByteArray) (hn : byteL nm = NMS.getD i []) (ha : (items B)[i * 2]? = some (.string nm)) (hb : (items B)[i * 2 + 1]? = some (.pointer (some ⟨B, i, none⟩)))
    (h0 : (crL l i)[i]? = some (.string ⟨#[]⟩)) (h1 : (crL l i).set i (.string (strOfNums (gotF l (NMS.getD i [])))) = crL l (i + 1)) (h2 : vv l i 6 = vv l (i + 1) 6) : CAt w B cb mb l i nm B i :=
  ⟨hn, fun wr h => ⟨items_range h.s ha hb, by rw [h.b.b.cell]; exact h0, h.b.b.frozen i, by
    have hs := h.b.set i (.string (strOfNums (gotF l (NMS.getD i []))))
    rw [h1, h2] at hs
    exact ⟨hs, h.s.setOther (by omega) _⟩⟩⟩
theorem cat_any (w : World) (B cb mb : Nat) (l : List (List Int × List Int)) : ∀ i, i < 7 → ∃ nm pb po, CAt w B cb mb l i nm pb po
  | 0, _ => ⟨_, _, _, catB w B cb mb l 0 ⟨#[117, 115, 101, 114, 110, 97, 109, 101]⟩ rfl rfl rfl rfl rfl rfl⟩
  | 1, _ => ⟨_, _, _, catB w B cb mb l 1 ⟨#[114, 101, 97, 108, 109]⟩ rfl rfl rfl rfl rfl rfl⟩
  | 2, _ => ⟨_, _, _, catB w B cb mb l 2 ⟨#[110, 111, 110, 99, 101]⟩ rfl rfl rfl rfl rfl rfl⟩
  | 3, _ => ⟨_, _, _, catB w B cb mb l 3 ⟨#[117, 114, 105]⟩ rfl rfl rfl rfl rfl rfl⟩
  | 4, _ => ⟨_, _, _, catB w B cb mb l 4 ⟨#[114, 101, 115, 112, 111, 110, 115, 101]⟩ rfl rfl rfl rfl rfl rfl⟩
  | 5, _ => ⟨_, _, _, catB w B cb mb l 5 ⟨#[99, 110, 111, 110, 99, 101]⟩ rfl rfl rfl rfl rfl rfl⟩
  | 6, _ => ⟨⟨#[110, 99]⟩, B + 1, 0, rfl, fun wr h => ⟨items_range h.s rfl rfl, h.b.n.cell 0, h.b.n.frozen 0, by
      have hs := h.b.setN (.string (strOfNums (gotF l (NMS.getD 6 []))))
      exact ⟨hs, h.s.setOther (by omega) _⟩⟩⟩
  | i + 7, h => absurd h (by omega)
end Go.Proofs.YtfhbpgickkibmaaGreatDoor
namespace Go.Proofs.YtfhbpgickkibmaaGreatDoor
open Go.RowKit

theorem pow3 (k : Nat) (h : k ≤ 3) : (256 : Int) ^ k ≤ 16777216 := by
  rcases (show k = 0 ∨ k = 1 ∨ k = 2 ∨ k = 3 by omega) with rfl | rfl | rfl | rfl <;> decide
theorem bytes_or (x b : Int) (hx : 0 ≤ x) (hx2 : x < 16777216) (hb : 0 ≤ b) (hb2 : b < 256) : bits .or .i64 (x * 256) b = x * 256 + b := by
  obtain ⟨X, rfl⟩ := Int.eq_ofNat_of_zero_le hx
  obtain ⟨Y, rfl⟩ := Int.eq_ofNat_of_zero_le hb
  show IntKind.i64.wrap ((BitVec.ofInt 64 (((X : Int)) * 256) ||| BitVec.ofInt 64 (Y : Int)).toNat : Int) = _
  rw [show ((X : Int)) * 256 = ((X * 256 : Nat) : Int) by rw [Int.natCast_mul]; rfl, BitVec.toNat_or, BitVec.ofInt_natCast, BitVec.ofInt_natCast, BitVec.toNat_ofNat, BitVec.toNat_ofNat, Nat.mod_eq_of_lt (by omega), Nat.mod_eq_of_lt (by omega)]
  have h := Nat.two_pow_add_eq_or_of_lt (i := 8) (b := Y) (by omega) X
  rw [show 2 ^ 8 * X = X * 256 by omega] at h
  rw [← h]
  simp [IntKind.wrap, IntKind.bits, IntKind.signed]
  split <;> omega
set_option maxRecDepth 100000 in
set_option maxHeartbeats 2000000 in
theorem parsecr_any (s : ByteArray) (w : World) (hs : s.size ≤ 4000000) : Calls Tryz.prog 12 #[.string s] w fun e w' => e = .returned (crV (parseCr (byteL s))) ∧ Below w.heap.size w w' := by
  have PF := Lib.hid (fun l (h : fieldsL (byteL s) = .ok l) => show parseCr (byteL s) = if missing l = true then .error 8
    else if lowS (gotF l ALG) ≠ SHA then .error 15
    else if gotF l QOP ≠ AUTHI ∧ gotF l QOP ≠ AUTH then .error 15
    else if goodU (gotF l NC) = false ∨ (gotF l NC).length / 2 ≠ 4 then .error 5
    else .ok ⟨gotF l USER, gotF l REALM, gotF l NONCE, gotF l URI, gotF l RESP, gotF l CNONCE, gotF l OPAQUE, numL (unL (gotF l NC) 4), gotF l QOP == AUTHI⟩ by unfold parseCr; rw [h])
  have PB := Lib.hid (fun k (h : fieldsL (byteL s) = .error k) => show crV (parseCr (byteL s)) = .tuple #[.agg Z9.toArray, .int .u8 k] by unfold parseCr; rw [h]; rfl)
  have FO := Lib.hid (fun l (h : fieldsL (byteL s) = .ok l) => (fieldsL_ok (byteL_by s) (by rw [byteL_len]; omega) h).1)
  have VB := Lib.hid (fun k (h : parseCr (byteL s) = .error k) => show crV (parseCr (byteL s)) = .tuple #[.agg Z9.toArray, .int .u8 k] by rw [h]; rfl)
  have VY := Lib.hid (fun c (h : parseCr (byteL s) = .ok c) => show crV (parseCr (byteL s)) = .tuple #[.agg (crC c).toArray, .int .u8 0] by rw [h]; rfl)
  generalize hV : crV (parseCr (byteL s)) = VV at *
  clear hV
  generalize hP : parseCr (byteL s) = PP at *
  clear hP
  have R0 := Lib.hid (Row.new w 23 Z9)
  have B0 := Lib.hid ((Below.refl w.heap.size w).alloc (Nat.le_refl _) (.cells Z9.toArray 23))
  go_enter Tryz.func12, Tryz.ntmps12
  go_wp2_with fail
  refine (fields_any s _ hs).mono ?_
  rintro e w1 ⟨hb1, hp⟩
  have B1 := Lib.hid (bthen B0.out hb1)
  have R1 := Lib.hid (R0.out.below hb1)
  clear hb1 R0 B0
  cases hF : fieldsL (byteL s) with
  | error k =>
    rw [hF] at hp
    subst hp
    have hb : (k != 0) = true := by simpa using fieldsL_err hF
    have E := Lib.hid (PB.out k hF)
    clear hF
    go_wp2_with (with_reducible refine wpList_storeR rfl 23 (.tmp 2) (.tmp 27) rfl R1.out Z9 rfl rfl (lenL9 _ _ _ _ _ _ _ _ _ _ _ _ _ _ _ _ _ _) (sizeL9 _ _ _ _ _ _ _ _ _) (p9_one _ _ _ _ _ _ _ _ _) B1.out (Nat.le_refl _) ?_)
    intro w9 R9 B9 _
    go_wp2_with fail
    exact bodyPost_ret (results_ct rfl _ _ _ w.heap.size Z9 _ rfl R9.out.range Tryz.underlying23 rfl size9) rfl ⟨by rw [E.out]; rfl, B9.out⟩
  | ok l =>
    rw [hF] at hp
    obtain ⟨cb, mb, rfl, hc, hlt, hmm⟩ := hp
    have S0 := Lib.hid (show CS w w1.heap.size cb mb l 0 (((w1.alloc (.cells Z9.toArray 23)).alloc (.cells #[.string ⟨#[]⟩] 9)).alloc (.cells (items w1.heap.size).toArray 86)) from by
      have hb0 : Below w1.heap.size w1 (w1.alloc (.cells Z9.toArray 23)) := (Below.refl _ _).alloc (Nat.le_refl _) _
      have hb1 : Below (w1.alloc (.cells Z9.toArray 23)).heap.size (w1.alloc (.cells Z9.toArray 23)) ((w1.alloc (.cells Z9.toArray 23)).alloc (.cells #[.string ⟨#[]⟩] 9)) := (Below.refl _ _).alloc (Nat.le_refl _) _
      have hb2 : Below ((w1.alloc (.cells Z9.toArray 23)).alloc (.cells #[.string ⟨#[]⟩] 9)).heap.size ((w1.alloc (.cells Z9.toArray 23)).alloc (.cells #[.string ⟨#[]⟩] 9)) (((w1.alloc (.cells Z9.toArray 23)).alloc (.cells #[.string ⟨#[]⟩] 9)).alloc (.cells (items w1.heap.size).toArray 86)) := (Below.refl _ _).alloc (Nat.le_refl _) _
      have hall := bthen (bthen hb0 hb1) hb2
      have r0 := ((Row.new w1 23 Z9).below hb1).below hb2
      have r1 := (Row.new (w1.alloc (.cells Z9.toArray 23)) 9 [.string ⟨#[]⟩]).below hb2
      have r2 := Row.new ((w1.alloc (.cells Z9.toArray 23)).alloc (.cells #[.string ⟨#[]⟩] 9)) 86 (items w1.heap.size)
      rw [show (w1.alloc (.cells Z9.toArray 23)).heap.size = w1.heap.size + 1 by simp] at r1
      rw [show ((w1.alloc (.cells Z9.toArray 23)).alloc (.cells #[.string ⟨#[]⟩] 9)).heap.size = w1.heap.size + 2 by simp] at r2
      exact ⟨⟨bthen B1.out hall, R1.out.below hall, (hall.cell (p := ⟨cb, 0, none⟩) hlt).trans hc, hmm.below hall, r0, r1, R1.out.lt, hlt, hmm.lt⟩, r2⟩)
    have PE := Lib.hid (PF.out l hF)
    have AO := Lib.hid (gotF_ok ALG (FO.out l hF))
    have QO := Lib.hid (gotF_ok QOP (FO.out l hF))
    have NO := Lib.hid (gotF_ok NC (FO.out l hF))
    have ML := Lib.hid (fun i (hi : i < 7) (h : (getF l (NMS.getD i [])).isSome = false) => missing_at (l := l) hi h)
    have MN := Lib.hid (fun h => missing_no (l := l) h)
    have CA := Lib.hid (fun i hi => cat_any w w1.heap.size cb mb l i hi)
    clear hc hlt hmm hF B1 R1 PF PB FO
    go_wp2_with fail
    go_loopw [45] (fun v wr => ∃ i : Nat, i ≤ 7 ∧ v = .int .i64 i ∧ Hid (CS w w1.heap.size cb mb l i wr) ∧ Hid (∀ j, j < i → (getF l (NMS.getD j [])).isSome = true)) (fun v _ => 7 - (intOf v).toNat)
    case atStart => exact ⟨0, Nat.zero_le _, rfl, S0, Lib.hid (fun j hj => absurd hj (by omega))⟩
    case round =>
      clear S0
      obtain ⟨i, hi, rfl, HS, HG⟩ := hrel
      by_cases hlt : i < 7
      · obtain ⟨nm, pb, po, hnm, hat⟩ := CA.out i hlt
        obtain ⟨hrg, _, _, _⟩ := hat wr HS.out
        have RG := Lib.hid hrg
        have AT := Lib.hid hat
        have NM := Lib.hid hnm
        clear hnm hat hrg
        have hd : decide (i < 7) = true := by simp [hlt]
        have hd1 : decide ((i : Int) < 7) = true := by simp; omega
        have RN := Lib.hid (Row.new wr 86 [.string ⟨#[]⟩, .pointer none])
        have BN := Lib.hid ((Below.refl wr.heap.size wr).alloc (Nat.le_refl _) (.cells #[.string ⟨#[]⟩, .pointer none] 86))
        go_wp2_with (first
          | (with_reducible refine wpList_load_mid rfl 86 (.tmp 47) rfl (w1.heap.size + 2) (i * 2) rfl [.string nm, .pointer (some ⟨pb, po, none⟩)] _ RG.out Tryz.underlying86 rfl (sizeI _ _) ?_)
          | (with_reducible refine wpList_storeR rfl 86 (.tmp 10) (.tmp 48) rfl RN.out [.string nm, .pointer (some ⟨pb, po, none⟩)] rfl rfl (lenL2 _ _ _ _) (sizeI _ _) (i2_one _ _) BN.out (Nat.le_refl _) ?_))
        intro w5 R5 B5 _
        have S5 := Lib.hid (HS.out.below B5.out)
        have c0 : w5.cell? ⟨wr.heap.size, 0, none⟩ = some (.string nm) := R5.out.cell 0
        have c1 : w5.cell? ⟨wr.heap.size, 1, none⟩ = some (.pointer (some ⟨pb, po, none⟩)) := R5.out.cell 1
        clear RN BN HS RG
        go_wp2_with fail
        refine (findl_any w5 mb cb l nm S5.out.b.c S5.out.b.m).mono ?_
        rintro e w6 ⟨rfl, rfl⟩
        rw [NM.out]
        obtain ⟨_, h2, h3, h4⟩ := AT.out w5 S5.out
        have S6 := Lib.hid h4
        clear h4
        cases hso : (getF l (NMS.getD i [])).isSome with
        | false =>
          have E := Lib.hid (VB.out 8 (PE.out.trans (if_pos (ML.out i hlt hso))))
          clear hso h2 h3
          go_wp2_with (with_reducible refine wpList_storeR rfl 23 (.tmp 2) (.tmp 58) rfl S5.out.b.r Z9 rfl rfl (lenL9 _ _ _ _ _ _ _ _ _ _ _ _ _ _ _ _ _ _) (sizeL9 _ _ _ _ _ _ _ _ _) (p9_one _ _ _ _ _ _ _ _ _) S5.out.b.bw (Nat.le_refl _) ?_)
          intro w9 R9 B9 _
          go_wp2_with fail
          exact bodyPost_ret (results_ct rfl _ _ _ w.heap.size Z9 _ rfl R9.out.range Tryz.underlying23 rfl size9) rfl ⟨by rw [E.out]; rfl, B9.out⟩
        | true =>
          have G2 := Lib.hid (show ∀ j, j < i + 1 → (getF l (NMS.getD j [])).isSome = true from fun j hj => by
            rcases (show j < i ∨ j = i by omega) with h | rfl
            · exact HG.out j h
            · exact hso)
          clear hso
          go_wp2_with fail
          go_roundw
          case rel => exact ⟨i + 1, by omega, by go_num, S6, G2⟩
          case measure => simp [intOf]; omega
      · obtain rfl : i = 7 := by omega
        have PE0 := Lib.hid (PE.out.trans (if_neg (by rw [MN.out HG.out]; decide)))
        clear PE
        have C0 := Lib.hid (show CB w w1.heap.size cb mb l [.string (strOfNums (gotF l USER)), .string (strOfNums (gotF l REALM)), .string (strOfNums (gotF l NONCE)), .string (strOfNums (gotF l URI)), .string (strOfNums (gotF l RESP)), .string (strOfNums (gotF l CNONCE)), .string ⟨#[]⟩, .int .i64 0, .bool false] (.string (strOfNums (gotF l NC))) wr from HS.out.b)
        clear HS HG CA ML MN
        generalize gotF l USER = g1 at *
        generalize gotF l REALM = g2 at *
        generalize gotF l NONCE = g3 at *
        generalize gotF l URI = g4 at *
        generalize gotF l RESP = g5 at *
        generalize gotF l CNONCE = g6 at *
        generalize gotF l NC = g7 at *
        go_wp2_with fail
        refine (findl_any wr mb cb l _ C0.out.c C0.out.m).mono ?_
        rintro e w2 ⟨rfl, rfl⟩
        rw [show byteL ⟨#[97, 108, 103, 111, 114, 105, 116, 104, 109]⟩ = ALG from rfl]
        generalize (getF l ALG).isSome = b3 at *
        generalize gotF l ALG = ga at *
        go_wp2_with fail
        refine (lower_any _ _ (by rw [num_size]; exact AO.out.2)).mono ?_
        rintro e w2 ⟨rfl, hb2⟩
        have C2 := Lib.hid (C0.out.below hb2)
        clear hb2 C0
        rw [byteL_str AO.out.1]
        have BL := Lib.hid (lowS_by AO.out.1)
        have DQ := Lib.hid (show (strOfNums (lowS ga)).toList = [115, 104, 97, 45, 50, 53, 54] ↔ lowS ga = SHA from lit_eq BL.out _)
        generalize lowS ga = LW at *
        by_cases hD : LW = SHA
        · have q := DQ.out.2 hD
          have PE1 := Lib.hid (PE0.out.trans (if_neg (fun h => h hD)))
          clear hD
          go_wp2_with fail
          clear q
          refine (findl_any w2 mb cb l _ C2.out.c C2.out.m).mono ?_
          rintro e w3 ⟨rfl, rfl⟩
          rw [show byteL ⟨#[113, 111, 112]⟩ = QOP from rfl]
          generalize (getF l QOP).isSome = b4 at *
          generalize gotF l QOP = gq at *
          go_wp2_with fail
          refine (quality_any true _).mono ?_
          rintro e w4 ⟨rfl, rfl⟩
          rw [show QUAL true = AUTHI from rfl]
          have TB1 := toList_beq QO.out.1 (show By AUTHI from byteL_by ⟨#[97, 117, 116, 104, 45, 105, 110, 116]⟩)
          have TB2 := toList_beq QO.out.1 (show By AUTH from byteL_by ⟨#[97, 117, 116, 104]⟩)
          have TH2 := Lib.hid TB2
          clear TB2
          cases hI : (gq == AUTHI) with
          | true =>
            rw [hI] at TB1
            have GQ := Lib.hid (show gq = AUTHI from by simpa using hI)
            have PE2 := Lib.hid (PE1.out.trans (if_neg (fun h => h.1 GQ.out)))
            rw [hI] at PE2
            have c8 : w2.cell? ⟨w1.heap.size, 8, none⟩ = some (.bool false) := C2.out.b.cell 8
            have f8 := C2.out.b.frozen 8
            have C3 := Lib.hid (show CB w w1.heap.size cb mb l [.string (strOfNums g1), .string (strOfNums g2), .string (strOfNums g3), .string (strOfNums g4), .string (strOfNums g5), .string (strOfNums g6), .string ⟨#[]⟩, .int .i64 0, .bool true] (.string (strOfNums g7)) _ from C2.out.set 8 (.bool true))
            have c9 : (w2.setCell ⟨w1.heap.size, 8, none⟩ (.bool true)).cell? ⟨w1.heap.size, 8, none⟩ = some (.bool true) := C3.out.b.cell 8
            have c10 : (w2.setCell ⟨w1.heap.size, 8, none⟩ (.bool true)).cell? ⟨w1.heap.size + 1, 0, none⟩ = some (.string (strOfNums g7)) := C3.out.n.cell 0
            clear hI
            go_wp2_with fail
            clear c8 f8 c9 TB1
            generalize w2.setCell ⟨w1.heap.size, 8, none⟩ (.bool true) = w3 at *
            refine (unhex_any _ _ (by rw [num_size]; exact NO.out.2)).mono ?_
            rintro e w4 ⟨hb4, hu⟩
            clear c10
            have C4 := Lib.hid (C3.out.below hb4)
            have U0 := Lib.hid (show w1.heap.size + 1 < w3.heap.size from C3.out.n.lt)
            clear hb4
            rw [byteL_str NO.out.1] at hu
            cases hgu : goodU g7 with
            | false =>
              rw [hgu] at hu
              have he : e = .returned (.tuple #[.slice none 0 0, .int .u8 5]) := hu
              subst he
              have E := Lib.hid (VB.out 5 (PE2.out.trans (if_pos (.inl hgu))))
              clear hgu hu
              go_wp2_with (with_reducible refine wpList_storeR rfl 23 (.tmp 2) (.tmp 103) rfl C4.out.r Z9 rfl rfl (lenL9 _ _ _ _ _ _ _ _ _ _ _ _ _ _ _ _ _ _) (sizeL9 _ _ _ _ _ _ _ _ _) (p9_one _ _ _ _ _ _ _ _ _) C4.out.bw (Nat.le_refl _) ?_)
              intro w9 R9 B9 _
              go_wp2_with fail
              exact bodyPost_ret (results_ct rfl _ _ _ w.heap.size Z9 _ rfl R9.out.range Tryz.underlying23 rfl size9) rfl ⟨by rw [E.out]; rfl, B9.out⟩
            | true =>
              rw [hgu] at hu
              obtain ⟨rfl, hrow⟩ := hu
              have UR := Lib.hid hrow
              clear hrow
              by_cases h4 : g7.length / 2 = 4
              · have PE3 := Lib.hid (PE2.out.trans (if_neg (by rintro (h | h); rw [hgu] at h; cases h; exact h h4)))
                have UB := Lib.hid (unL_by g7 4)
                have UL := Lib.hid (unL_len g7 4)
                rw [h4] at UR
                generalize unL g7 4 = bs at *
                have hh4 : ((g7.length / 2 : Nat) : Int) = 4 := by omega
                have hb : (((g7.length / 2 : Nat) : Int) != 4) = false := by rw [hh4]; rfl
                generalize hnn : g7.length / 2 = n at *
                have H4 := Lib.hid h4
                have n1 : n ≤ 4 := by omega
                have n2 : 4 ≤ n := by omega
                clear hgu hnn h4 hh4
                go_wp2_with fail
                go_loopw [106] (fun v wr => ∃ k : Nat, k ≤ n ∧ v = .int .i64 k ∧ Hid (CB w w1.heap.size cb mb l [.string (strOfNums g1), .string (strOfNums g2), .string (strOfNums g3), .string (strOfNums g4), .string (strOfNums g5), .string (strOfNums g6), .string ⟨#[]⟩, .int .i64 (numL (bs.take k)), .bool true] (.string (strOfNums g7)) wr) ∧ Hid (Row wr w3.heap.size 5 (U8 bs))) (fun v _ => n - (intOf v).toNat)
                case atStart => exact ⟨0, Nat.zero_le _, rfl, C4, UR⟩
                case round =>
                  obtain ⟨k, hk, rfl, HC, HU⟩ := hrel
                  by_cases hlt : k < n
                  · have hkl : k < bs.length := by rw [UL.out]; omega
                    have hx := UB.out _ (getD_mem (l := bs) (i := k) hkl)
                    have c1 : wr.cell? ⟨w3.heap.size, k, none⟩ = some (.int .u8 (bs.getD k 0)) := (HU.out.cell k).trans (U8_get (getD_some hkl))
                    have hy := numL_take UB.out k (by omega)
                    have hy2 : numL (bs.take k) < 16777216 := by
                      have h5 := pow3 k (by omega)
                      omega
                    have hy1 := hy.1
                    have NS := Lib.hid (show numL (bs.take (k + 1)) = numL (bs.take k) * 256 + bs.getD k 0 by rw [take_snocI bs hkl, numL_snoc])
                    have c7 : wr.cell? ⟨w1.heap.size, 7, none⟩ = some (.int .i64 (numL (bs.take k))) := HC.out.b.cell 7
                    have f7 := HC.out.b.frozen 7
                    clear hy hkl
                    generalize bs.getD k 0 = x at *
                    generalize numL (bs.take k) = y at *
                    have OR := bytes_or y x hy1 hy2 hx.1 hx.2
                    have x1 := hx.1
                    have x2 := hx.2
                    clear hx
                    have C5 := Lib.hid (show CB w w1.heap.size cb mb l [.string (strOfNums g1), .string (strOfNums g2), .string (strOfNums g3), .string (strOfNums g4), .string (strOfNums g5), .string (strOfNums g6), .string ⟨#[]⟩, .int .i64 (y * 256 + x), .bool true] (.string (strOfNums g7)) _ from HC.out.set 7 (.int .i64 (y * 256 + x)))
                    have U5 := Lib.hid (HU.out.setOther (p := w1.heap.size) (i := 7) (by have := U0.out; omega) (.int .i64 (y * 256 + x)))
                    have hd : decide (k < n) = true := by simp [hlt]
                    go_wp2_with fail
                    go_roundw
                    case rel => exact ⟨k + 1, by omega, by go_num, by rw [NS.out]; exact C5, U5⟩
                    case measure => simp [intOf]; omega
                  · obtain rfl : k = n := by omega
                    have C6 := Lib.hid (show CB w w1.heap.size cb mb l [.string (strOfNums g1), .string (strOfNums g2), .string (strOfNums g3), .string (strOfNums g4), .string (strOfNums g5), .string (strOfNums g6), .string ⟨#[]⟩, .int .i64 (numL bs), .bool true] (.string (strOfNums g7)) wr from by
                      have h5 := HC.out
                      rwa [List.take_of_length_le (by rw [UL.out]; omega)] at h5)
                    clear HC HU UR C4
                    go_wp2_with fail
                    refine (findl_any wr mb cb l _ C6.out.c C6.out.m).mono ?_
                    rintro e w5 ⟨rfl, rfl⟩
                    rw [show byteL ⟨#[111, 112, 97, 113, 117, 101]⟩ = OPAQUE from rfl]
                    generalize (getF l OPAQUE).isSome = b5 at *
                    generalize gotF l OPAQUE = go at *
                    have E := Lib.hid (VY.out ⟨g1, g2, g3, g4, g5, g6, go, numL bs, true⟩ PE3.out)
                    generalize numL bs = y at *
                    have c6 : wr.cell? ⟨w1.heap.size, 6, none⟩ = some (.string ⟨#[]⟩) := C6.out.b.cell 6
                    have f6 := C6.out.b.frozen 6
                    have C7 := Lib.hid (show CB w w1.heap.size cb mb l [.string (strOfNums g1), .string (strOfNums g2), .string (strOfNums g3), .string (strOfNums g4), .string (strOfNums g5), .string (strOfNums g6), .string (strOfNums go), .int .i64 y, .bool true] (.string (strOfNums g7)) _ from C6.out.set 6 (.string (strOfNums go)))
                    go_wp2_with (first
                      | (with_reducible refine wpList_loadR rfl 23 (.tmp 6) rfl C7.out.b rfl Tryz.underlying23 rfl (sizeL9 _ _ _ _ _ _ _ _ _) ?_)
                      | (with_reducible refine wpList_storeR rfl 23 (.tmp 2) (.tmp 124) rfl C7.out.r [.string (strOfNums g1), .string (strOfNums g2), .string (strOfNums g3), .string (strOfNums g4), .string (strOfNums g5), .string (strOfNums g6), .string (strOfNums go), .int .i64 y, .bool true] rfl rfl (lenL9 _ _ _ _ _ _ _ _ _ _ _ _ _ _ _ _ _ _) (sizeL9 _ _ _ _ _ _ _ _ _) (p9_one _ _ _ _ _ _ _ _ _) C7.out.bw (Nat.le_refl _) ?_))
                    intro w9 R9 B9 _
                    go_wp2_with fail
                    exact bodyPost_ret (results_ct rfl _ _ _ w.heap.size [.string (strOfNums g1), .string (strOfNums g2), .string (strOfNums g3), .string (strOfNums g4), .string (strOfNums g5), .string (strOfNums g6), .string (strOfNums go), .int .i64 y, .bool true] _ rfl R9.out.range Tryz.underlying23 rfl size9) rfl ⟨by rw [E.out]; rfl, B9.out⟩
              · have E := Lib.hid (VB.out 5 (PE2.out.trans (if_pos (.inr h4))))
                have hb : (((g7.length / 2 : Nat) : Int) != 4) = true := by simp only [bne_iff_ne]; omega
                generalize g7.length / 2 = n at *
                clear h4 hgu
                go_wp2_with (with_reducible refine wpList_storeR rfl 23 (.tmp 2) (.tmp 103) rfl C4.out.r Z9 rfl rfl (lenL9 _ _ _ _ _ _ _ _ _ _ _ _ _ _ _ _ _ _) (sizeL9 _ _ _ _ _ _ _ _ _) (p9_one _ _ _ _ _ _ _ _ _) C4.out.bw (Nat.le_refl _) ?_)
                intro w9 R9 B9 _
                go_wp2_with fail
                exact bodyPost_ret (results_ct rfl _ _ _ w.heap.size Z9 _ rfl R9.out.range Tryz.underlying23 rfl size9) rfl ⟨by rw [E.out]; rfl, B9.out⟩
          | false =>
            rw [hI] at TB1
            have GN := Lib.hid (show gq ≠ AUTHI from by simpa using hI)
            rw [hI] at PE1
            have c8 : w2.cell? ⟨w1.heap.size, 8, none⟩ = some (.bool false) := C2.out.b.cell 8
            have f8 := C2.out.b.frozen 8
            have C3 := Lib.hid (show CB w w1.heap.size cb mb l [.string (strOfNums g1), .string (strOfNums g2), .string (strOfNums g3), .string (strOfNums g4), .string (strOfNums g5), .string (strOfNums g6), .string ⟨#[]⟩, .int .i64 0, .bool false] (.string (strOfNums g7)) _ from C2.out.set 8 (.bool false))
            have c9 : (w2.setCell ⟨w1.heap.size, 8, none⟩ (.bool false)).cell? ⟨w1.heap.size, 8, none⟩ = some (.bool false) := C3.out.b.cell 8
            have c10 : (w2.setCell ⟨w1.heap.size, 8, none⟩ (.bool false)).cell? ⟨w1.heap.size + 1, 0, none⟩ = some (.string (strOfNums g7)) := C3.out.n.cell 0
            clear hI
            go_wp2_with fail
            refine (quality_any false _).mono ?_
            rintro e w4 ⟨rfl, rfl⟩
            rw [show QUAL false = AUTH from rfl]
            have TB2 := TH2.out
            cases hA : (gq == AUTH) with
            | true =>
              rw [hA] at TB2
              have PE2 := Lib.hid (PE1.out.trans (if_neg (fun h => h.2 (by simpa using hA))))
              clear hA
              go_wp2_with fail
              clear c8 f8 c9 TB1
              generalize w2.setCell ⟨w1.heap.size, 8, none⟩ (.bool false) = w3 at *
              refine (unhex_any _ _ (by rw [num_size]; exact NO.out.2)).mono ?_
              rintro e w4 ⟨hb4, hu⟩
              clear c10
              have C4 := Lib.hid (C3.out.below hb4)
              have U0 := Lib.hid (show w1.heap.size + 1 < w3.heap.size from C3.out.n.lt)
              clear hb4
              rw [byteL_str NO.out.1] at hu
              cases hgu : goodU g7 with
              | false =>
                rw [hgu] at hu
                have he : e = .returned (.tuple #[.slice none 0 0, .int .u8 5]) := hu
                subst he
                have E := Lib.hid (VB.out 5 (PE2.out.trans (if_pos (.inl hgu))))
                clear hgu hu
                go_wp2_with (with_reducible refine wpList_storeR rfl 23 (.tmp 2) (.tmp 103) rfl C4.out.r Z9 rfl rfl (lenL9 _ _ _ _ _ _ _ _ _ _ _ _ _ _ _ _ _ _) (sizeL9 _ _ _ _ _ _ _ _ _) (p9_one _ _ _ _ _ _ _ _ _) C4.out.bw (Nat.le_refl _) ?_)
                intro w9 R9 B9 _
                go_wp2_with fail
                exact bodyPost_ret (results_ct rfl _ _ _ w.heap.size Z9 _ rfl R9.out.range Tryz.underlying23 rfl size9) rfl ⟨by rw [E.out]; rfl, B9.out⟩
              | true =>
                rw [hgu] at hu
                obtain ⟨rfl, hrow⟩ := hu
                have UR := Lib.hid hrow
                clear hrow
                by_cases h4 : g7.length / 2 = 4
                · have PE3 := Lib.hid (PE2.out.trans (if_neg (by rintro (h | h); rw [hgu] at h; cases h; exact h h4)))
                  have UB := Lib.hid (unL_by g7 4)
                  have UL := Lib.hid (unL_len g7 4)
                  rw [h4] at UR
                  generalize unL g7 4 = bs at *
                  have hh4 : ((g7.length / 2 : Nat) : Int) = 4 := by omega
                  have hb : (((g7.length / 2 : Nat) : Int) != 4) = false := by rw [hh4]; rfl
                  generalize hnn : g7.length / 2 = n at *
                  have H4 := Lib.hid h4
                  have n1 : n ≤ 4 := by omega
                  have n2 : 4 ≤ n := by omega
                  clear hgu hnn h4 hh4
                  go_wp2_with fail
                  go_loopw [106] (fun v wr => ∃ k : Nat, k ≤ n ∧ v = .int .i64 k ∧ Hid (CB w w1.heap.size cb mb l [.string (strOfNums g1), .string (strOfNums g2), .string (strOfNums g3), .string (strOfNums g4), .string (strOfNums g5), .string (strOfNums g6), .string ⟨#[]⟩, .int .i64 (numL (bs.take k)), .bool false] (.string (strOfNums g7)) wr) ∧ Hid (Row wr w3.heap.size 5 (U8 bs))) (fun v _ => n - (intOf v).toNat)
                  case atStart => exact ⟨0, Nat.zero_le _, rfl, C4, UR⟩
                  case round =>
                    obtain ⟨k, hk, rfl, HC, HU⟩ := hrel
                    by_cases hlt : k < n
                    · have hkl : k < bs.length := by rw [UL.out]; omega
                      have hx := UB.out _ (getD_mem (l := bs) (i := k) hkl)
                      have c1 : wr.cell? ⟨w3.heap.size, k, none⟩ = some (.int .u8 (bs.getD k 0)) := (HU.out.cell k).trans (U8_get (getD_some hkl))
                      have hy := numL_take UB.out k (by omega)
                      have hy2 : numL (bs.take k) < 16777216 := by
                        have h5 := pow3 k (by omega)
                        omega
                      have hy1 := hy.1
                      have NS := Lib.hid (show numL (bs.take (k + 1)) = numL (bs.take k) * 256 + bs.getD k 0 by rw [take_snocI bs hkl, numL_snoc])
                      have c7 : wr.cell? ⟨w1.heap.size, 7, none⟩ = some (.int .i64 (numL (bs.take k))) := HC.out.b.cell 7
                      have f7 := HC.out.b.frozen 7
                      clear hy hkl
                      generalize bs.getD k 0 = x at *
                      generalize numL (bs.take k) = y at *
                      have OR := bytes_or y x hy1 hy2 hx.1 hx.2
                      have x1 := hx.1
                      have x2 := hx.2
                      clear hx
                      have C5 := Lib.hid (show CB w w1.heap.size cb mb l [.string (strOfNums g1), .string (strOfNums g2), .string (strOfNums g3), .string (strOfNums g4), .string (strOfNums g5), .string (strOfNums g6), .string ⟨#[]⟩, .int .i64 (y * 256 + x), .bool false] (.string (strOfNums g7)) _ from HC.out.set 7 (.int .i64 (y * 256 + x)))
                      have U5 := Lib.hid (HU.out.setOther (p := w1.heap.size) (i := 7) (by have := U0.out; omega) (.int .i64 (y * 256 + x)))
                      have hd : decide (k < n) = true := by simp [hlt]
                      go_wp2_with fail
                      go_roundw
                      case rel => exact ⟨k + 1, by omega, by go_num, by rw [NS.out]; exact C5, U5⟩
                      case measure => simp [intOf]; omega
                    · obtain rfl : k = n := by omega
                      have C6 := Lib.hid (show CB w w1.heap.size cb mb l [.string (strOfNums g1), .string (strOfNums g2), .string (strOfNums g3), .string (strOfNums g4), .string (strOfNums g5), .string (strOfNums g6), .string ⟨#[]⟩, .int .i64 (numL bs), .bool false] (.string (strOfNums g7)) wr from by
                        have h5 := HC.out
                        rwa [List.take_of_length_le (by rw [UL.out]; omega)] at h5)
                      clear HC HU UR C4
                      go_wp2_with fail
                      refine (findl_any wr mb cb l _ C6.out.c C6.out.m).mono ?_
                      rintro e w5 ⟨rfl, rfl⟩
                      rw [show byteL ⟨#[111, 112, 97, 113, 117, 101]⟩ = OPAQUE from rfl]
                      generalize (getF l OPAQUE).isSome = b5 at *
                      generalize gotF l OPAQUE = go at *
                      have E := Lib.hid (VY.out ⟨g1, g2, g3, g4, g5, g6, go, numL bs, false⟩ PE3.out)
                      generalize numL bs = y at *
                      have c6 : wr.cell? ⟨w1.heap.size, 6, none⟩ = some (.string ⟨#[]⟩) := C6.out.b.cell 6
                      have f6 := C6.out.b.frozen 6
                      have C7 := Lib.hid (show CB w w1.heap.size cb mb l [.string (strOfNums g1), .string (strOfNums g2), .string (strOfNums g3), .string (strOfNums g4), .string (strOfNums g5), .string (strOfNums g6), .string (strOfNums go), .int .i64 y, .bool false] (.string (strOfNums g7)) _ from C6.out.set 6 (.string (strOfNums go)))
                      go_wp2_with (first
                        | (with_reducible refine wpList_loadR rfl 23 (.tmp 6) rfl C7.out.b rfl Tryz.underlying23 rfl (sizeL9 _ _ _ _ _ _ _ _ _) ?_)
                        | (with_reducible refine wpList_storeR rfl 23 (.tmp 2) (.tmp 124) rfl C7.out.r [.string (strOfNums g1), .string (strOfNums g2), .string (strOfNums g3), .string (strOfNums g4), .string (strOfNums g5), .string (strOfNums g6), .string (strOfNums go), .int .i64 y, .bool false] rfl rfl (lenL9 _ _ _ _ _ _ _ _ _ _ _ _ _ _ _ _ _ _) (sizeL9 _ _ _ _ _ _ _ _ _) (p9_one _ _ _ _ _ _ _ _ _) C7.out.bw (Nat.le_refl _) ?_))
                      intro w9 R9 B9 _
                      go_wp2_with fail
                      exact bodyPost_ret (results_ct rfl _ _ _ w.heap.size [.string (strOfNums g1), .string (strOfNums g2), .string (strOfNums g3), .string (strOfNums g4), .string (strOfNums g5), .string (strOfNums g6), .string (strOfNums go), .int .i64 y, .bool false] _ rfl R9.out.range Tryz.underlying23 rfl size9) rfl ⟨by rw [E.out]; rfl, B9.out⟩
                · have E := Lib.hid (VB.out 5 (PE2.out.trans (if_pos (.inr h4))))
                  have hb : (((g7.length / 2 : Nat) : Int) != 4) = true := by simp only [bne_iff_ne]; omega
                  generalize g7.length / 2 = n at *
                  clear h4 hgu
                  go_wp2_with (with_reducible refine wpList_storeR rfl 23 (.tmp 2) (.tmp 103) rfl C4.out.r Z9 rfl rfl (lenL9 _ _ _ _ _ _ _ _ _ _ _ _ _ _ _ _ _ _) (sizeL9 _ _ _ _ _ _ _ _ _) (p9_one _ _ _ _ _ _ _ _ _) C4.out.bw (Nat.le_refl _) ?_)
                  intro w9 R9 B9 _
                  go_wp2_with fail
                  exact bodyPost_ret (results_ct rfl _ _ _ w.heap.size Z9 _ rfl R9.out.range Tryz.underlying23 rfl size9) rfl ⟨by rw [E.out]; rfl, B9.out⟩
            | false =>
              rw [hA] at TB2
              have E := Lib.hid (VB.out 15 (PE1.out.trans (if_pos ⟨GN.out, by simpa using hA⟩)))
              clear hA
              go_wp2_with (with_reducible refine wpList_storeR rfl 23 (.tmp 2) (.tmp 90) rfl C3.out.r Z9 rfl rfl (lenL9 _ _ _ _ _ _ _ _ _ _ _ _ _ _ _ _ _ _) (sizeL9 _ _ _ _ _ _ _ _ _) (p9_one _ _ _ _ _ _ _ _ _) C3.out.bw (Nat.le_refl _) ?_)
              intro w9 R9 B9 _
              go_wp2_with fail
              exact bodyPost_ret (results_ct rfl _ _ _ w.heap.size Z9 _ rfl R9.out.range Tryz.underlying23 rfl size9) rfl ⟨by rw [E.out]; rfl, B9.out⟩
        · have q : ((strOfNums LW).toList == ([115, 104, 97, 45, 50, 53, 54] : List UInt8)) = false := by
            rw [Bool.eq_false_iff]; intro h; exact hD (DQ.out.1 (by simpa using h))
          have E := Lib.hid (VB.out 15 (PE0.out.trans (if_pos hD)))
          clear hD
          go_wp2_with (with_reducible refine wpList_storeR rfl 23 (.tmp 2) (.tmp 72) rfl C2.out.r Z9 rfl rfl (lenL9 _ _ _ _ _ _ _ _ _ _ _ _ _ _ _ _ _ _) (sizeL9 _ _ _ _ _ _ _ _ _) (p9_one _ _ _ _ _ _ _ _ _) C2.out.bw (Nat.le_refl _) ?_)
          intro w9 R9 B9 _
          go_wp2_with fail
          exact bodyPost_ret (results_ct rfl _ _ _ w.heap.size Z9 _ rfl R9.out.range Tryz.underlying23 rfl size9) rfl ⟨by rw [E.out]; rfl, B9.out⟩
end Go.Proofs.YtfhbpgickkibmaaGreatDoor
