/- What a request that was answered is to Verify (plain). -/
import Derived.Test.YtfhbpgickkibmaaGreatDoorRd
import Derived.Test.YtfhbpgickkibmaaGreatDoorPn
import Derived.Test.YtfhbpgickkibmaaGreatDoorNh
import Derived.Test.YtfhbpgickkibmaaGreatDoorSa
namespace Go.Proofs.YtfhbpgickkibmaaGreatDoor
open Go.RowKit

def TOs : ByteArray := ⟨#[84, 111]⟩
def BOBs : ByteArray := ⟨#[115, 105, 112, 58, 98, 111, 98, 64, 98]⟩
def INVs : ByteArray := ⟨#[73, 78, 86, 73, 84, 69]⟩
theorem canon_to : canonL (byteL TOs) = some (byteL TOs) := by kernel_rfl
theorem canon_auth : canonL AUTHN = some AUTHN := by kernel_rfl
theorem off_to (rs : List Int) : offL (byteL TOs) (byteL BOBs) rs = none := offL_name (by rw [canon_to]; exact fun h => absurd h (by decide))
theorem keep_to (rs : List Int) : keepH rs [(TOs, BOBs)] = [(TOs, BOBs)] := by
  unfold keepH
  rw [List.filter_cons, if_pos (by rw [off_to]; rfl), List.filter_nil]
theorem pres_back {rs v : List Int} {c : Cr} (hv : By v) (hp : parseCr v = .ok c) (hr : c.r = rs) : presL [(TOs, BOBs), (AUTHs, strOfNums v)] rs = some c := by
  unfold presL
  rw [List.findSome?_cons, off_to]
  dsimp only
  rw [List.findSome?_cons, AUTHs_by, byteL_str hv, offL_yes canon_auth hp hr]
theorem clean_hexL {xs : List Int} (h : By xs) : clean (hexL xs) = true := by
  unfold clean hexL
  rw [List.all_eq_true]
  intro x hx
  obtain ⟨b, hb, hx⟩ := List.mem_flatMap.1 hx
  have hb := h b hb
  have key : ∀ y : Int, 0 ≤ y → y < 16 → (!isCtl (hexC y)) = true := by
    intro y h0 h1
    unfold isCtl hexC
    split
    · simp only [Bool.not_eq_true', Bool.or_eq_false_iff, Bool.and_eq_false_iff, decide_eq_false_iff_not, beq_eq_false_iff_ne]
      exact ⟨.inl (by omega), by omega⟩
    · simp only [Bool.not_eq_true', Bool.or_eq_false_iff, Bool.and_eq_false_iff, decide_eq_false_iff_not, beq_eq_false_iff_ne]
      exact ⟨.inl (by omega), by omega⟩
  simp only [hexP, List.mem_cons, List.not_mem_nil, or_false] at hx
  rcases hx with rfl | rfl
  · exact key _ (by omega) (by omega)
  · exact key _ (by omega) (by omega)
theorem clean_hash (zs : List (List Int)) : clean (hashL zs) = true := clean_hexL (sumH_by _)
theorem clean_resp (se n : List Int) (k : Int) (c : List Int) (g : Bool) (u m b : List Int) : clean (respL se n k c g u m b) = true := clean_hash _
/-- The value that Answer lays. -/
def valA (c : Cr) : List Int := DIG ++ joinL [44, 32] (partsCr c)
theorem valA_by {c : Cr} (hu : By c.u) (hr : By c.r) (hn : By c.n) (hi : By c.i) (hp : By c.p) (hc : By c.c) (ho : By c.o) (h0 : 0 ≤ c.k) (h1 : c.k ≤ 4294967295) : By (valA c) := by
  obtain ⟨u, r, n, i, p, c, o, k, g⟩ := c
  have q0 := nq_by (show By USER from byteL_by ⟨#[117, 115, 101, 114, 110, 97, 109, 101]⟩) hu
  have q1 := nq_by (show By REALM from byteL_by ⟨#[114, 101, 97, 108, 109]⟩) hr
  have q2 := nq_by (show By NONCE from byteL_by ⟨#[110, 111, 110, 99, 101]⟩) hn
  have q3 := nq_by (show By URI from byteL_by ⟨#[117, 114, 105]⟩) hi
  have q4 := nq_by (show By RESP from byteL_by ⟨#[114, 101, 115, 112, 111, 110, 115, 101]⟩) hp
  have q5 := nq_by (show By CNONCE from byteL_by ⟨#[99, 110, 111, 110, 99, 101]⟩) hc
  have q6 := nq_by (show By OPAQUE from byteL_by ⟨#[111, 112, 97, 113, 117, 101]⟩) ho
  have q10 : By ALGP := byteL_by ⟨#[97, 108, 103, 111, 114, 105, 116, 104, 109, 61, 83, 72, 65, 45, 50, 53, 54]⟩
  have q11 : By (QOPE ++ (if g = true then AUTHI else AUTH)) := by cases g; exact byteL_by ⟨#[113, 111, 112, 61, 97, 117, 116, 104]⟩; exact byteL_by ⟨#[113, 111, 112, 61, 97, 117, 116, 104, 45, 105, 110, 116]⟩
  have q12 : By (NCE ++ hex8 k) := fun x hx => by
    rcases List.mem_append.1 hx with h | h
    · exact (show By NCE from byteL_by ⟨#[110, 99, 61]⟩) x h
    · exact hex8_by k h0 x h
  intro x hx
  rcases List.mem_append.1 hx with h | h
  · exact (show By DIG from byteL_by ⟨#[68, 105, 103, 101, 115, 116, 32]⟩) x h
  · refine joinL_byE (show By [44, 32] from byteL_by ⟨#[44, 32]⟩) _ (fun p hp => ?_) x h
    unfold partsCr at hp
    dsimp only at hp
    simp only [List.mem_append, List.mem_cons, List.not_mem_nil, or_false] at hp
    rcases hp with (rfl | rfl | rfl | rfl | rfl | rfl | rfl | rfl | rfl) | hp
    all_goals first
      | assumption
      | (split at hp <;> simp only [List.mem_cons, List.not_mem_nil, or_false] at hp <;> first | (subst hp; assumption) | cases hp)
theorem valA_len {c : Cr} (h : c.u.length + c.r.length + c.n.length + c.i.length + c.p.length + c.c.length + c.o.length ≤ 1000000) : (valA c).length ≤ 3000000 := by
  obtain ⟨u, r, n, i, p, c, o, k, g⟩ := c
  dsimp only at h
  unfold valA
  rw [List.length_append]
  have h1 := joinL_len2 [44, 32] (partsCr ⟨u, r, n, i, p, c, o, k, g⟩)
  have h2 := nq_len USER u
  have e2 : USER.length = 8 := rfl
  have h3 := nq_len REALM r
  have e3 : REALM.length = 5 := rfl
  have h4 := nq_len NONCE n
  have e4 : NONCE.length = 5 := rfl
  have h5 := nq_len URI i
  have e5 : URI.length = 3 := rfl
  have h6 := nq_len RESP p
  have e6 : RESP.length = 8 := rfl
  have h7 := nq_len CNONCE c
  have e7 : CNONCE.length = 6 := rfl
  have h8 := nq_len OPAQUE o
  have e8 : OPAQUE.length = 6 := rfl
  have e20 : ALGP.length = 17 := rfl
  have e21 : DIG.length = 7 := rfl
  have e22 : QOPE.length = 4 := rfl
  have e23 : NCE.length = 3 := rfl
  have e24 : (hex8 k).length = 8 := rfl
  have e25 : AUTHI.length = 8 := rfl
  have e26 : AUTH.length = 4 := rfl
  have h20 : ((partsCr ⟨u, r, n, i, p, c, o, k, g⟩).map fun p => p.length + [44, 32].length).sum ≤ 2900000 := by
    unfold partsCr
    dsimp only
    split <;> split <;> simp only [List.map_append, List.map_cons, List.map_nil, List.sum_append, List.sum_cons, List.sum_nil, List.append_nil, List.length_cons, List.length_nil, List.length_append] <;> omega
  omega
/-- The credentials of a request that answers a nonce. -/
def XC (U R nn cs pw : List Int) (k : Int) (g : Bool) (bs : List Int) : Cr := ansCr U R nn (byteL BOBs) [] cs (byteL INVs) k g pw bs
def XP (U R nn cs pw : List Int) (k : Int) (g : Bool) (bs : List Int) : List Int := respL (hashL [U, R, pw]) nn k cs g (byteL BOBs) (byteL INVs) bs
theorem XC_eq (U R nn cs pw : List Int) (k : Int) (g : Bool) (bs : List Int) : XC U R nn cs pw k g bs = ⟨U, R, nn, byteL BOBs, XP U R nn cs pw k g bs, cs, [], k, g⟩ := rfl
theorem XP_by (U R nn cs pw : List Int) (k : Int) (g : Bool) (bs : List Int) : By (XP U R nn cs pw k g bs) := respL_by _ _ _ _ _ _ _ _
theorem XP_len (U R nn cs pw : List Int) (k : Int) (g : Bool) (bs : List Int) : (XP U R nn cs pw k g bs).length = 64 := respL_len _ _ _ _ _ _ _ _
theorem XC_clean (U R nn cs pw : List Int) (k : Int) (g : Bool) (bs : List Int) : cleanCr (XC U R nn cs pw k g bs) = (clean U && (clean R && (clean nn && clean cs))) := by
  rw [XC_eq]
  unfold cleanCr
  dsimp only
  rw [show clean (byteL BOBs) = true from rfl, show clean (XP U R nn cs pw k g bs) = true from clean_resp _ _ _ _ _ _ _ _, show clean [] = true from rfl]
  simp
theorem ans_XC {U R nn cs pw : List Int} {k : Int} {g ci : Bool} {bs : List Int} (h0 : 1 ≤ k) (h1 : k ≤ 4294967295) (hg : (g && !ci) = false) :
    ansL 0 ci (XC U R nn cs pw k g bs) = if (clean U && (clean R && (clean nn && clean cs))) = true then some (valA (XC U R nn cs pw k g bs)) else none := by
  unfold ansL
  rw [if_neg (by
    show ¬ badA 0 k g ci = true
    unfold badA
    rw [hg]
    simp
    omega), printCr, if_neg (by show ¬ (k < 0 ∨ 4294967295 < k); omega), XC_clean]
  split
  · rfl
  · rfl
/-- The headers of the request. -/
def TwoH (c : Cr) : List (ByteArray × ByteArray) := [(TOs, BOBs), (AUTHs, strOfNums (valA c))]
structure XOk (U R nn cs : List Int) (k : Int) : Prop where
  u : By U
  r : By R
  n : By nn
  c : By cs
  k0 : 0 ≤ k
  k1 : k ≤ 4294967295
  cl : (clean U && (clean R && (clean nn && clean cs))) = true
theorem XOk.by {U R nn cs : List Int} {k : Int} (h : XOk U R nn cs k) (pw : List Int) (g : Bool) (bs : List Int) : By (valA (XC U R nn cs pw k g bs)) :=
  valA_by h.u h.r h.n (byteL_by _) (XP_by _ _ _ _ _ _ _ _) h.c (fun x hx => by cases hx) h.k0 h.k1
theorem XOk.parse {U R nn cs : List Int} {k : Int} (h : XOk U R nn cs k) (pw : List Int) (g : Bool) (bs : List Int) : parseCr (valA (XC U R nn cs pw k g bs)) = .ok (XC U R nn cs pw k g bs) :=
  back_cr (XC U R nn cs pw k g bs) h.k0 h.k1 (by rw [XC_clean]; exact h.cl)
theorem XOk.pres {U R nn cs : List Int} {k : Int} (h : XOk U R nn cs k) (pw : List Int) (g : Bool) (bs : List Int) : presL (TwoH (XC U R nn cs pw k g bs)) R = some (XC U R nn cs pw k g bs) :=
  pres_back (h.by pw g bs) (h.parse pw g bs) rfl
theorem strE {a b : List Int} (ha : By a) (hb : By b) : ((strOfNums a).toList == (strOfNums b).toList) = decide (a = b) := by
  by_cases h : a = b
  · subst h; simp
  · rw [decide_eq_false h, beq_eq_false_iff_ne]
    intro e
    apply h
    have h2 : strOfNums a = strOfNums b := by
      apply ByteArray.ext
      apply Array.toList_inj.1
      simpa [ByteArray.toList_eq] using e
    rw [← byteL_str ha, ← byteL_str hb, h2]
theorem XOk.wrong {U R nn cs : List Int} {k : Int} (h : XOk U R nn cs k) (pw : List Int) (g : Bool) (bs bs2 : List Int) {us : List (ByteArray × ByteArray)} {j : Nat} {s : ByteArray} (hf : findK us (strOfNums U) = some j) (hs : (us.getD j (⟨#[]⟩, ⟨#[]⟩)).2 = s) :
    wrongV us BOBs INVs bs2 (XC U R nn cs pw k g bs) = !decide (respL (byteL s) nn k cs g (byteL BOBs) (byteL INVs) bs2 = XP U R nn cs pw k g bs) := by
  rw [wrong_resp (by show ((strOfNums (byteL BOBs)).toList == BOBs.toList) = true; rw [str_byteL]; simp) hf, hs]
  unfold respV
  show (!((strOfNums (respL (byteL s) (byteL (strOfNums nn)) (k % 4294967296) (byteL (strOfNums cs)) g (byteL (strOfNums (byteL BOBs))) (byteL INVs) bs2)).toList == (strOfNums (XP U R nn cs pw k g bs)).toList)) = _
  have hk0 := h.k0
  have hk1 := h.k1
  rw [byteL_str h.n, byteL_str h.c, str_byteL, show k % 4294967296 = k by omega, strE (respL_by _ _ _ _ _ _ _ _) (XP_by _ _ _ _ _ _ _ _)]
theorem XOk.wrong0 {U R nn cs : List Int} {k : Int} (pw : List Int) (g : Bool) (bs bs2 : List Int) {us : List (ByteArray × ByteArray)} (hf : findK us (strOfNums U) = none) : wrongV us BOBs INVs bs2 (XC U R nn cs pw k g bs) = true := wrong_user hf
end Go.Proofs.YtfhbpgickkibmaaGreatDoor
