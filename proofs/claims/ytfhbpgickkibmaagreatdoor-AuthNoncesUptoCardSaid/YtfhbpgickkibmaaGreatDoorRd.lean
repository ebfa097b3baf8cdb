/- What Verify answers; the reference's Verify. -/
import Derived.Test.YtfhbpgickkibmaaGreatDoorRc
import Derived.Test.YtfhbpgickkibmaaGreatDoorKc
import Derived.IntWalk
namespace Go.Proofs.YtfhbpgickkibmaaGreatDoor
open Go.RowKit

theorem presL_ok {hs : List (ByteArray × ByteArray)} {rs : List Int} {q : Cr} (hl : ∀ h ∈ hs, h.2.size ≤ 4000000) (h : presL hs rs = some q) : CrOK q := by
  unfold presL at h
  obtain ⟨p, hp, hq⟩ := List.exists_of_findSome?_eq_some h
  exact parseCr_ok (byteL_by _) (by rw [byteL_len]; exact hl p hp) (offL_some hq).2.1
def hitN (nn : ByteArray) (p : Nce) : Bool := p.v.toList == nn.toList
/-- The last of the first j nonces that is this one. -/
def findBk (l : List Nce) (nn : ByteArray) : Nat → Option Nat
  | 0 => none
  | j + 1 => match l[j]? with
    | some p => if hitN nn p = true then some j else findBk l nn j
    | none => findBk l nn j
theorem secV_form (us : List (ByteArray × ByteArray)) (K : Option Nat) : ∃ s b, secV us K = .tuple #[.string s, .bool b] := by
  cases K
  · exact ⟨_, _, rfl⟩
  · exact ⟨_, _, rfl⟩
theorem getD_size {us : List (ByteArray × ByteArray)} (h : ∀ p ∈ us, p.2.size ≤ 4000000) (k : Nat) : (us.getD k (⟨#[]⟩, ⟨#[]⟩)).2.size ≤ 4000000 := by
  rw [List.getD_eq_getElem?_getD]
  cases hk : us[k]? with
  | none => decide
  | some p => exact h p (List.mem_of_getElem? hk)
def findB (l : List Nce) (nn : ByteArray) : Option Nat := findBk l nn l.length
theorem findBk_yes {l : List Nce} {nn : ByteArray} {j : Nat} {p : Nce} (hp : l[j]? = some p) (hq : hitN nn p = true) : findBk l nn (j + 1) = some j := by
  unfold findBk
  rw [hp]
  exact if_pos hq
theorem findBk_no {l : List Nce} {nn : ByteArray} {j : Nat} {p : Nce} (hp : l[j]? = some p) (hq : hitN nn p = false) : findBk l nn (j + 1) = findBk l nn j := by
  conv => lhs; unfold findBk
  rw [hp]
  exact if_neg (by rw [hq]; decide)
structure VR where
  re : ByteArray
  ke : ByteArray
  life : Int
  iss : Int
  l : List Nce
  u : ByteArray
  q : Int
def respV (ms : ByteArray) (bs : List Int) (s : ByteArray) (c : Cr) : List Int := respL (byteL s) (byteL (strOfNums c.n)) (c.k % 4294967296) (byteL (strOfNums c.c)) c.g (byteL (strOfNums c.i)) (byteL ms) bs
def badV (re ke : ByteArray) (life iss code now : Int) (l : List Nce) : Bool := !validG (byteL re) (byteL ke) life iss l || (code != 0 || (decide (now < 0) || decide (1099511627776 < now)))
def wrongV (us : List (ByteArray × ByteArray)) (uri ms : ByteArray) (bs : List Int) (c : Cr) : Bool := !((strOfNums c.i).toList == uri.toList) || (match findK us (strOfNums c.u) with
  | none => true
  | some k => !((strOfNums (respV ms bs (us.getD k (⟨#[]⟩, ⟨#[]⟩)).2 c)).toList == (strOfNums c.p).toList))
def nonceV (life now : Int) (l : List Nce) (c : Cr) : Int × List Nce := match findB l (strOfNums c.n) with
  | none => (13, l)
  | some i => if life < now - (l.getD i ⟨⟨#[]⟩, 0, 0⟩).a then (13, l) else if c.k ≤ (l.getD i ⟨⟨#[]⟩, 0, 0⟩).k then (7, l) else (0, l.set i ⟨(l.getD i ⟨⟨#[]⟩, 0, 0⟩).v, (l.getD i ⟨⟨#[]⟩, 0, 0⟩).a, c.k⟩)
theorem badV_ok {re ke : ByteArray} {life iss code now : Int} {l : List Nce} (h : badV re ke life iss code now l = false) : ∀ p ∈ l, 0 ≤ p.a ∧ p.a ≤ 1099511627776 := fun p hp => by
  unfold badV at h
  have h1 : validG (byteL re) (byteL ke) life iss l = true := by
    cases hv : validG (byteL re) (byteL ke) life iss l
    · rw [hv] at h; cases h
    · rfl
  unfold validG at h1
  simp only [Bool.and_eq_true, List.all_eq_true] at h1
  have h2 := h1.2.2.2.2.2.2.2 p hp
  unfold ncOk at h2
  simp only [Bool.and_eq_true, decide_eq_true_eq] at h2
  exact ⟨h2.1, h2.2.1⟩
/-- What Verify answers. -/
def verL (re ke : ByteArray) (life iss code now : Int) (l : List Nce) (us hs : List (ByteArray × ByteArray)) (ms uri : ByteArray) (bs : List Int) : VR :=
  if badV re ke life iss code now l = true then ⟨⟨#[]⟩, ⟨#[]⟩, 0, 0, [], ⟨#[]⟩, 2⟩ else
  match presL hs (byteL re) with
  | none => ⟨re, ke, life, iss, l, ⟨#[]⟩, 8⟩
  | some c => if wrongV us uri ms bs c = true then ⟨re, ke, life, iss, l, ⟨#[]⟩, 12⟩ else
    ⟨re, ke, life, iss, (nonceV life now l c).2, if (nonceV life now l c).1 = 0 then strOfNums c.u else ⟨#[]⟩, (nonceV life now l c).1⟩
section
variable {re ke ms uri : ByteArray} {life iss code now : Int} {l : List Nce} {us hs : List (ByteArray × ByteArray)} {bs : List Int} {c : Cr}
theorem verL_bad (h : badV re ke life iss code now l = true) : verL re ke life iss code now l us hs ms uri bs = ⟨⟨#[]⟩, ⟨#[]⟩, 0, 0, [], ⟨#[]⟩, 2⟩ := if_pos h
theorem verL_none (h : badV re ke life iss code now l = false) (h2 : presL hs (byteL re) = none) : verL re ke life iss code now l us hs ms uri bs = ⟨re, ke, life, iss, l, ⟨#[]⟩, 8⟩ := by
  unfold verL
  rw [if_neg (by rw [h]; decide), h2]
theorem verL_wrong (h : badV re ke life iss code now l = false) (h2 : presL hs (byteL re) = some c) (h3 : wrongV us uri ms bs c = true) : verL re ke life iss code now l us hs ms uri bs = ⟨re, ke, life, iss, l, ⟨#[]⟩, 12⟩ := by
  unfold verL
  rw [if_neg (by rw [h]; decide), h2]
  exact if_pos h3
theorem verL_nonce {k : Int} {l2 : List Nce} (h : badV re ke life iss code now l = false) (h2 : presL hs (byteL re) = some c) (h3 : wrongV us uri ms bs c = false) (h4 : nonceV life now l c = (k, l2)) (hk : k ≠ 0) : verL re ke life iss code now l us hs ms uri bs = ⟨re, ke, life, iss, l2, ⟨#[]⟩, k⟩ := by
  unfold verL
  rw [if_neg (by rw [h]; decide), h2]
  dsimp only
  rw [if_neg (by rw [h3]; decide), h4]
  dsimp only
  rw [if_neg hk]
theorem verL_yes {l2 : List Nce} (h : badV re ke life iss code now l = false) (h2 : presL hs (byteL re) = some c) (h3 : wrongV us uri ms bs c = false) (h4 : nonceV life now l c = (0, l2)) : verL re ke life iss code now l us hs ms uri bs = ⟨re, ke, life, iss, l2, strOfNums c.u, 0⟩ := by
  unfold verL
  rw [if_neg (by rw [h]; decide), h2]
  dsimp only
  rw [if_neg (by rw [h3]; decide), h4]
  rfl
theorem wrong_uri (h : ((strOfNums c.i).toList == uri.toList) = false) : wrongV us uri ms bs c = true := by unfold wrongV; rw [h]; rfl
theorem wrong_user (h : findK us (strOfNums c.u) = none) : wrongV us uri ms bs c = true := by unfold wrongV; rw [h]; simp
theorem wrong_resp {k : Nat} (h0 : ((strOfNums c.i).toList == uri.toList) = true) (h : findK us (strOfNums c.u) = some k) : wrongV us uri ms bs c = !((strOfNums (respV ms bs (us.getD k (⟨#[]⟩, ⟨#[]⟩)).2 c)).toList == (strOfNums c.p).toList) := by unfold wrongV; rw [h0, h]; rfl
theorem nonce_none (h : findB l (strOfNums c.n) = none) : nonceV life now l c = (13, l) := by unfold nonceV; rw [h]
theorem nonce_old {i : Nat} {p : Nce} (h : findB l (strOfNums c.n) = some i) (hp : l[i]? = some p) (h2 : life < now - p.a) : nonceV life now l c = (13, l) := by
  unfold nonceV
  rw [h]
  dsimp only
  rw [List.getD_eq_getElem?_getD, hp]
  exact if_pos h2
theorem nonce_used {i : Nat} {p : Nce} (h : findB l (strOfNums c.n) = some i) (hp : l[i]? = some p) (h2 : ¬ life < now - p.a) (h3 : c.k ≤ p.k) : nonceV life now l c = (7, l) := by
  unfold nonceV
  rw [h]
  dsimp only
  rw [List.getD_eq_getElem?_getD, hp]
  dsimp only [Option.getD_some]
  rw [if_neg h2, if_pos h3]
theorem nonce_new {i : Nat} {p : Nce} (h : findB l (strOfNums c.n) = some i) (hp : l[i]? = some p) (h2 : ¬ life < now - p.a) (h3 : ¬ c.k ≤ p.k) : nonceV life now l c = (0, l.set i ⟨p.v, p.a, c.k⟩) := by
  unfold nonceV
  rw [h]
  dsimp only
  rw [List.getD_eq_getElem?_getD, hp]
  dsimp only [Option.getD_some]
  rw [if_neg h2, if_neg h3]
end
/-- What both hand back. -/
def VerP (V : VR) (w : World) (e : Ending) (w' : World) : Prop := Below w.heap.size w w' ∧ ∃ A c, e = .returned (.tuple #[.agg #[.string V.re, .string V.ke, .int .i64 V.life, .int .i64 V.iss, .slice A V.l.length c], .string V.u, .int .u8 V.q]) ∧ Rds w' w'.heap.size A (ncs V.l)
theorem VerP.zero {V : VR} {w w' : World} (h : V = ⟨⟨#[]⟩, ⟨#[]⟩, 0, 0, [], ⟨#[]⟩, 2⟩) (hb : Below w.heap.size w w') : VerP V w (.returned (.tuple #[.agg #[.string ⟨#[]⟩, .string ⟨#[]⟩, .int .i64 0, .int .i64 0, .slice none 0 0], .string ⟨#[]⟩, .int .u8 2])) w' := ⟨hb, none, 0, by rw [h]; rfl, by rw [h]; exact fun h => absurd h (by simp [ncs])⟩
theorem VerP.of {V : VR} {w w' : World} {re ke u : ByteArray} {life iss q : Int} {l : List Nce} {A : Option Addr} {n c : Nat} (h : V = ⟨re, ke, life, iss, l, u, q⟩) (hb : Below w.heap.size w w') (hn : l.length = n) (hA : Rds w' w'.heap.size A (ncs l)) :
    VerP V w (.returned (.tuple #[.agg #[.string re, .string ke, .int .i64 life, .int .i64 iss, .slice A n c], .string u, .int .u8 q])) w' := ⟨hb, A, c, by rw [h, ← hn], by rw [h]; exact hA⟩
theorem results_ctu {fn : Func} {t u v : Tmp} {ty : TypeId} (h : fn.results = #[.cell t ty, .tmp u, .tmp v]) (tmps : Array Value) (P : Program) (w : World) (b : Nat) (cs : List Value) (d : TypeDesc)
    (ht : tmps.getD t undef = .pointer (some ⟨b, 0, none⟩)) (hc : w.rangeAt b 0 cs) (hu : P.underlying ty = some d) (hd : d.isRow = true) (hi : (P.info? ty).map (·.size) = some cs.length) :
    (results fn tmps).run P w = .ok (.tuple #[.agg cs.toArray, tmps.getD u undef, tmps.getD v undef]) w := by
  have hl := run_loadVar_mid (P := P) w b 0 ty cs d hc hu hd hi
  simp only [results, h]
  simp [-Array.getD_eq_getD_getElem?, ht, asAddr, hl]
theorem ncs_stored {w : World} {gb j : Nat} {l : List Nce} {p : Nce} {k : Int} (hp : l[j]? = some p) (h : ∀ i u, (ncs l)[i]? = some u → w.cell? ⟨gb, i, none⟩ = some u) :
    ∀ i u, (ncs (l.set j ⟨p.v, p.a, k⟩))[i]? = some u → (w.setCell ⟨gb, j * 3 + 2, none⟩ (.int .i64 k)).cell? ⟨gb, i, none⟩ = some u := fun i u hu => by
  have hj : j < l.length := (List.getElem?_eq_some_iff.1 hp).1
  have hi := (List.getElem?_eq_some_iff.1 hu).1
  rw [ncs_len, List.length_set] at hi
  obtain ⟨r, hr⟩ : ∃ r, l[i / 3]? = some r := ⟨_, List.getElem?_eq_getElem (by omega)⟩
  by_cases hij : i / 3 = j
  · have hs : (l.set j ⟨p.v, p.a, k⟩)[i / 3]? = some ⟨p.v, p.a, k⟩ := by rw [hij, List.getElem?_set_self hj]
    rcases (show i % 3 = 0 ∨ i % 3 = 1 ∨ i % 3 = 2 by omega) with h3 | h3 | h3
    · have h4 := ncs_at hs 0 _ rfl
      rw [show i / 3 * 3 + 0 = i by omega, hu] at h4
      cases h4
      rw [World.cell?_setCell_other _ _ _ _ (by intro e; injection e with _ e1; omega)]
      have h5 := h _ _ (ncs_at hp 0 _ rfl)
      rwa [show j * 3 + 0 = i by omega] at h5
    · have h4 := ncs_at hs 1 _ rfl
      rw [show i / 3 * 3 + 1 = i by omega, hu] at h4
      cases h4
      rw [World.cell?_setCell_other _ _ _ _ (by intro e; injection e with _ e1; omega)]
      have h5 := h _ _ (ncs_at hp 1 _ rfl)
      rwa [show j * 3 + 1 = i by omega] at h5
    · have h4 := ncs_at hs 2 _ rfl
      rw [show i / 3 * 3 + 2 = i by omega, hu] at h4
      cases h4
      rw [show i = j * 3 + 2 by omega]
      exact World.cell?_setCell_same' _ _ _ (by rw [h _ _ (ncs_at hp 2 _ rfl)]; rfl)
  · have hs : (l.set j ⟨p.v, p.a, k⟩)[i / 3]? = some r := by rw [List.getElem?_set_ne (Ne.symm hij)]; exact hr
    rw [World.cell?_setCell_other _ _ _ _ (by intro e; injection e with _ e1; omega)]
    have hk : ∀ (c : Nat) (v : Value), [Value.string r.v, .int .i64 r.a, .int .i64 r.k][c]? = some v → i / 3 * 3 + c = i → w.cell? ⟨gb, i, none⟩ = some u := fun c v hc he => by
      have h4 := ncs_at hs c v hc
      have h5 := h _ _ (ncs_at hr c v hc)
      rw [he] at h4 h5
      rw [hu] at h4
      cases h4
      exact h5
    rcases (show i % 3 = 0 ∨ i % 3 = 1 ∨ i % 3 = 2 by omega) with h3 | h3 | h3
    · exact hk 0 _ rfl (by omega)
    · exact hk 1 _ rfl (by omega)
    · exact hk 2 _ rfl (by omega)
theorem sizeG3 : (Tryz.prog.info? 49).map (·.size) = some 5 := by kernel_rfl
theorem sizeG (a b c d e : Value) : (Tryz.prog.info? 49).map (·.size) = some [a, b, c, d, e].length := sizeG3
theorem lenG (a b c d e a' b' c' d' e' : Value) : [a, b, c, d, e].length = [a', b', c', d', e'].length := rfl
theorem g_one (a b : ByteArray) (k m : Int) (A : Option Addr) (n c : Nat) : ∀ u ∈ [Value.string a, .string b, .int .i64 k, .int .i64 m, .slice A n c], u.oneCell' = true := fun u hu => by
  simp at hu
  rcases hu with rfl | rfl | rfl | rfl | rfl <;> rfl
set_option maxRecDepth 100000 in
set_option maxHeartbeats 4000000 in
theorem refverify_any (re ke ms uri rsn : ByteArray) (life iss code now : Int) (Ea U A B : Option Addr) (en ec un uc n c m d : Nat) (l : List Nce) (us hs : List (ByteArray × ByteArray)) (bs : List Int) (w : World)
    (hE : Rds w w.heap.size Ea (ncs l)) (hen : l.length = en) (henN : en ≤ 2000000) (hU : Rds w w.heap.size U (hds us)) (hun : us.length = un) (hunN : un ≤ 16000000) (hus : ∀ h ∈ us, h.2.size ≤ 4000000)
    (hA : Rds w w.heap.size A (hds hs)) (hn : hs.length = n) (hN : n ≤ 4000000) (hl : ∀ h ∈ hs, h.1.size ≤ 4000000 ∧ h.2.size ≤ 4000000) (hb : By bs) (hm : bs.length = m) (hM : m ≤ 16000000) (hB : Bs w w.heap.size B bs)
    (s1 : re.size ≤ 4000000) (s2 : ke.size ≤ 4000000) (s7 : ms.size ≤ 4000000) (s8 : uri.size ≤ 4000000) :
    Calls Tryz.prog 26 #[.agg #[.string re, .string ke, .int .i64 life, .int .i64 iss, .slice Ea en ec], .slice U un uc, .agg #[.string ms, .string uri, .int .i64 code, .string rsn, .slice A n c, .slice B m d], .int .i64 now] w (VerP (verL re ke life iss code now l us hs ms uri bs) w) := by
  have VB := Lib.hid (fun h => verL_bad (us := us) (hs := hs) (ms := ms) (uri := uri) (bs := bs) (re := re) (ke := ke) (life := life) (iss := iss) (code := code) (now := now) (l := l) h)
  have VN := Lib.hid (fun h h2 => verL_none (us := us) (hs := hs) (ms := ms) (uri := uri) (bs := bs) (re := re) (ke := ke) (life := life) (iss := iss) (code := code) (now := now) (l := l) h h2)
  have VW := Lib.hid (fun q h h2 h3 => verL_wrong (c := q) (us := us) (hs := hs) (ms := ms) (uri := uri) (bs := bs) (re := re) (ke := ke) (life := life) (iss := iss) (code := code) (now := now) (l := l) h h2 h3)
  have VK := Lib.hid (fun q k l2 h h2 h3 h4 hk => verL_nonce (c := q) (k := k) (l2 := l2) (us := us) (hs := hs) (ms := ms) (uri := uri) (bs := bs) (re := re) (ke := ke) (life := life) (iss := iss) (code := code) (now := now) (l := l) h h2 h3 h4 hk)
  have VY := Lib.hid (fun q l2 h h2 h3 h4 => verL_yes (c := q) (l2 := l2) (us := us) (hs := hs) (ms := ms) (uri := uri) (bs := bs) (re := re) (ke := ke) (life := life) (iss := iss) (code := code) (now := now) (l := l) h h2 h3 h4)
  have BV := Lib.hid (show badV re ke life iss code now l = (!validG (byteL re) (byteL ke) life iss l || (code != 0 || (decide (now < 0) || decide (1099511627776 < now)))) from rfl)
  have POK := Lib.hid (fun q h => presL_ok (hs := hs) (rs := byteL re) (q := q) (fun h hh => (hl h hh).2) h)
  generalize verL re ke life iss code now l us hs ms uri bs = V at *
  have HEN := Lib.hid hen
  have S1 : (w.alloc (.cells #[.string re, .string ke, .int .i64 life, .int .i64 iss, .slice Ea en ec] 49)).heap.size = w.heap.size + 1 := World.size_alloc _ _
  have S2 : ((w.alloc (.cells #[.string re, .string ke, .int .i64 life, .int .i64 iss, .slice Ea en ec] 49)).alloc (.cells #[.string ms, .string uri, .int .i64 code, .string rsn, .slice A n c, .slice B m d] 41)).heap.size = w.heap.size + 1 + 1 := by rw [World.size_alloc, S1]
  have R4 := Lib.hid (show Row (((w.alloc (.cells #[.string re, .string ke, .int .i64 life, .int .i64 iss, .slice Ea en ec] 49)).alloc (.cells #[.string ms, .string uri, .int .i64 code, .string rsn, .slice A n c, .slice B m d] 41)).alloc (.cells #[.string ⟨#[]⟩, .string ⟨#[]⟩, .int .i64 0, .int .i64 0, .slice none 0 0] 49)) w.heap.size 49 [.string re, .string ke, .int .i64 life, .int .i64 iss, .slice Ea en ec] from ((Row.new w 49 [.string re, .string ke, .int .i64 life, .int .i64 iss, .slice Ea en ec]).alloc _).alloc _)
  have R6 := Lib.hid (show Row (((w.alloc (.cells #[.string re, .string ke, .int .i64 life, .int .i64 iss, .slice Ea en ec] 49)).alloc (.cells #[.string ms, .string uri, .int .i64 code, .string rsn, .slice A n c, .slice B m d] 41)).alloc (.cells #[.string ⟨#[]⟩, .string ⟨#[]⟩, .int .i64 0, .int .i64 0, .slice none 0 0] 49)) (w.heap.size + 1) 41 [.string ms, .string uri, .int .i64 code, .string rsn, .slice A n c, .slice B m d] by
    have h := Row.new (w.alloc (.cells #[.string re, .string ke, .int .i64 life, .int .i64 iss, .slice Ea en ec] 49)) 41 [.string ms, .string uri, .int .i64 code, .string rsn, .slice A n c, .slice B m d]
    rw [S1] at h
    exact h.alloc _)
  have R8 := Lib.hid (show Row (((w.alloc (.cells #[.string re, .string ke, .int .i64 life, .int .i64 iss, .slice Ea en ec] 49)).alloc (.cells #[.string ms, .string uri, .int .i64 code, .string rsn, .slice A n c, .slice B m d] 41)).alloc (.cells #[.string ⟨#[]⟩, .string ⟨#[]⟩, .int .i64 0, .int .i64 0, .slice none 0 0] 49)) (w.heap.size + 1 + 1) 49 [.string ⟨#[]⟩, .string ⟨#[]⟩, .int .i64 0, .int .i64 0, .slice none 0 0] by
    have h := Row.new ((w.alloc (.cells #[.string re, .string ke, .int .i64 life, .int .i64 iss, .slice Ea en ec] 49)).alloc (.cells #[.string ms, .string uri, .int .i64 code, .string rsn, .slice A n c, .slice B m d] 41)) 49 [.string ⟨#[]⟩, .string ⟨#[]⟩, .int .i64 0, .int .i64 0, .slice none 0 0]
    rw [S2] at h
    exact h)
  have BQ := Lib.hid (show Below w.heap.size w (((w.alloc (.cells #[.string re, .string ke, .int .i64 life, .int .i64 iss, .slice Ea en ec] 49)).alloc (.cells #[.string ms, .string uri, .int .i64 code, .string rsn, .slice A n c, .slice B m d] 41)).alloc (.cells #[.string ⟨#[]⟩, .string ⟨#[]⟩, .int .i64 0, .int .i64 0, .slice none 0 0] 49)) from (((Below.refl _ _).alloc (Nat.le_refl _) _).alloc (by rw [S1]; omega) _).alloc (by rw [S2]; omega) _)
  clear S1 S2
  have RV := Lib.hid (fun (X : World) (b : Below w.heap.size w X) => refvalid_any re ke life iss Ea en ec l X hen ((hE.below b).up b.size) (by omega) s1 s2)
  have PR := Lib.hid (fun (X : World) (b : Below w.heap.size w X) => presented_any ms uri rsn re code A B n c m d hs X ((hA.below b).up b.size) hn hN hl)
  have SU := Lib.hid (fun (u : ByteArray) (X : World) (b : Below w.heap.size w X) => refsecretu_any U un uc us u X ((hU.below b).up b.size) hun hunN)
  have HUS := Lib.hid hus
  have HBY := Lib.hid hb; have HM := Lib.hid hm
  clear hU hun hus hA hn hl hb hm hen
  generalize hVG : validG (byteL re) (byteL ke) life iss l = vg at *
  clear hVG
  generalize hP : presL hs (byteL re) = P at *
  clear hP
  go_enter Tryz.func26, Tryz.ntmps26
  go_wp2_with (with_reducible refine wpList_loadR rfl 49 (.tmp 4) rfl R4.out rfl Tryz.underlying49 rfl (sizeG _ _ _ _ _) ?_)
  generalize (((w.alloc (.cells #[.string re, .string ke, .int .i64 life, .int .i64 iss, .slice Ea en ec] 49)).alloc (.cells #[.string ms, .string uri, .int .i64 code, .string rsn, .slice A n c, .slice B m d] 41)).alloc (.cells #[.string ⟨#[]⟩, .string ⟨#[]⟩, .int .i64 0, .int .i64 0, .slice none 0 0] 49)) = W at *
  refine (RV.out W BQ.out).mono ?_
  rintro e w1 ⟨rfl, hb1⟩
  have R4' := Lib.hid (R4.out.below hb1); have R6' := Lib.hid (R6.out.below hb1); have R8' := Lib.hid (R8.out.below hb1); have BQ' := Lib.hid (bthen BQ.out hb1)
  clear hb1 R4 R6 R8 BQ RV
  have R4 := R4'; have R6 := R6'; have R8 := R8'; have BQ := BQ'
  clear R4' R6' R8' BQ'
  have c2 : w1.cell? ⟨w.heap.size + 1, 2, none⟩ = some (.int .i64 code) := R6.out.cell 2
  cases vg with
  | false =>
    have E := Lib.hid (VB.out (by rw [BV.out]; rfl))
    go_wp2_with (with_reducible refine wpList_storeR rfl 49 (.tmp 8) (.tmp 33) rfl R8.out [.string ⟨#[]⟩, .string ⟨#[]⟩, .int .i64 0, .int .i64 0, .slice none 0 0] rfl rfl (lenG _ _ _ _ _ _ _ _ _ _) (sizeG _ _ _ _ _) (g_one _ _ _ _ _ _ _) BQ.out (by omega) ?_)
    intro w9 R9 B9 _
    go_wp2_with fail
    exact bodyPost_ret (results_ctu rfl _ _ _ (w.heap.size + 1 + 1) [.string ⟨#[]⟩, .string ⟨#[]⟩, .int .i64 0, .int .i64 0, .slice none 0 0] _ rfl R9.out.range Tryz.underlying49 rfl sizeG3) rfl (by exact VerP.zero E.out B9.out)
  | true =>
  by_cases k0 : code = 0
  · have d0 : (code != 0) = false := by simp [k0]
    clear k0
    by_cases k1 : now < 0
    · have d1 : decide (now < 0) = true := by simp [k1]
      have E := Lib.hid (VB.out (by rw [BV.out, d0, d1]; rfl))
      clear k1
      go_wp2_with (with_reducible refine wpList_storeR rfl 49 (.tmp 8) (.tmp 33) rfl R8.out [.string ⟨#[]⟩, .string ⟨#[]⟩, .int .i64 0, .int .i64 0, .slice none 0 0] rfl rfl (lenG _ _ _ _ _ _ _ _ _ _) (sizeG _ _ _ _ _) (g_one _ _ _ _ _ _ _) BQ.out (by omega) ?_)
      intro w9 R9 B9 _
      go_wp2_with fail
      exact bodyPost_ret (results_ctu rfl _ _ _ (w.heap.size + 1 + 1) [.string ⟨#[]⟩, .string ⟨#[]⟩, .int .i64 0, .int .i64 0, .slice none 0 0] _ rfl R9.out.range Tryz.underlying49 rfl sizeG3) rfl (by exact VerP.zero E.out B9.out)
    have d1 : decide (now < 0) = false := by simp; omega
    by_cases k2 : 1099511627776 < now
    · have d2 : decide (1099511627776 < now) = true := by simp [k2]
      have E := Lib.hid (VB.out (by rw [BV.out, d0, d1, d2]; rfl))
      clear k1 k2
      go_wp2_with (with_reducible refine wpList_storeR rfl 49 (.tmp 8) (.tmp 33) rfl R8.out [.string ⟨#[]⟩, .string ⟨#[]⟩, .int .i64 0, .int .i64 0, .slice none 0 0] rfl rfl (lenG _ _ _ _ _ _ _ _ _ _) (sizeG _ _ _ _ _) (g_one _ _ _ _ _ _ _) BQ.out (by omega) ?_)
      intro w9 R9 B9 _
      go_wp2_with fail
      exact bodyPost_ret (results_ctu rfl _ _ _ (w.heap.size + 1 + 1) [.string ⟨#[]⟩, .string ⟨#[]⟩, .int .i64 0, .int .i64 0, .slice none 0 0] _ rfl R9.out.range Tryz.underlying49 rfl sizeG3) rfl (by exact VerP.zero E.out B9.out)
    have d2 : decide (1099511627776 < now) = false := by simp; omega
    have NB := Lib.hid (show badV re ke life iss code now l = false by rw [BV.out, d0, d1, d2]; rfl)
    clear BV VB
    have e0 : w1.cell? ⟨w.heap.size, 0, none⟩ = some (.string re) := R4.out.cell 0
    go_wp2_with (with_reducible refine wpList_loadR rfl 41 (.tmp 6) rfl R6.out rfl Tryz.underlying41 rfl (sizeL6 _ _ _ _ _ _) ?_)
    clear c2 e0 d0 d1 d2
    refine (PR.out w1 BQ.out).mono ?_
    rintro e w2 ⟨rfl, hb1⟩
    have R4' := Lib.hid (R4.out.below hb1); have R6' := Lib.hid (R6.out.below hb1); have R8' := Lib.hid (R8.out.below hb1); have BQ' := Lib.hid (bthen BQ.out hb1)
    clear hb1 R4 R6 R8 BQ PR
    have N11 := Lib.hid (Row.new w2 23 Z9)
    have BA := Lib.hid (BQ'.out.alloc BQ'.out.size (.cells Z9.toArray 23))
    have WS := Lib.hid BQ'.out.size
    have LT := Lib.hid R8'.out.lt
    cases P with
    | none =>
      have E := Lib.hid (VN.out NB.out rfl)
      rw [show presC none = Z9 from rfl]
      go_wp2_with (with_reducible refine wpList_storeR rfl 23 (.tmp 11) (.tmp 39) rfl N11.out Z9 rfl rfl (lenL9 _ _ _ _ _ _ _ _ _ _ _ _ _ _ _ _ _ _) (sizeL9 _ _ _ _ _ _ _ _ _) (p9_one _ _ _ _ _ _ _ _ _) BA.out WS.out ?_)
      intro w3 RC BQ HC
      have R4 := Lib.hid ((R4'.out.alloc (.cells Z9.toArray 23)).heap (HC.out.2 _ (by have := LT.out; omega)))
      have R8 := Lib.hid ((R8'.out.alloc (.cells Z9.toArray 23)).heap (HC.out.2 _ (by have := LT.out; omega)))
      clear R4' R6' R8' BQ' N11 BA
      go_wp2_with (first
        | (with_reducible refine wpList_loadR rfl 49 (.tmp 4) rfl R4.out rfl Tryz.underlying49 rfl (sizeG _ _ _ _ _) ?_)
        | (with_reducible refine wpList_storeR rfl 49 (.tmp 8) (.tmp 43) rfl R8.out [.string re, .string ke, .int .i64 life, .int .i64 iss, .slice Ea en ec] rfl rfl (lenG _ _ _ _ _ _ _ _ _ _) (sizeG _ _ _ _ _) (g_one _ _ _ _ _ _ _) BQ.out (by omega) ?_))
      intro w9 R9 B9 _
      go_wp2_with fail
      exact bodyPost_ret (results_ctu rfl _ _ _ (w.heap.size + 1 + 1) [.string re, .string ke, .int .i64 life, .int .i64 iss, .slice Ea en ec] _ rfl R9.out.range Tryz.underlying49 rfl (sizeG _ _ _ _ _)) rfl (by exact VerP.of E.out B9.out HEN.out ((hE.below B9.out).up B9.out.size))
    | some q =>
      rw [show presC (some q) = [.string (strOfNums q.u), .string (strOfNums q.r), .string (strOfNums q.n), .string (strOfNums q.i), .string (strOfNums q.p), .string (strOfNums q.c), .string (strOfNums q.o), .int .i64 q.k, .bool q.g] from rfl]
      have QOK := Lib.hid (POK.out q rfl)
      go_wp2_with (with_reducible refine wpList_storeR rfl 23 (.tmp 11) (.tmp 39) rfl N11.out [.string (strOfNums q.u), .string (strOfNums q.r), .string (strOfNums q.n), .string (strOfNums q.i), .string (strOfNums q.p), .string (strOfNums q.c), .string (strOfNums q.o), .int .i64 q.k, .bool q.g] rfl rfl (lenL9 _ _ _ _ _ _ _ _ _ _ _ _ _ _ _ _ _ _) (sizeL9 _ _ _ _ _ _ _ _ _) (p9_one _ _ _ _ _ _ _ _ _) BA.out WS.out ?_)
      intro w3 RC BQ HC
      have R4 := Lib.hid ((R4'.out.alloc (.cells Z9.toArray 23)).heap (HC.out.2 _ (by have := LT.out; omega)))
      have R6 := Lib.hid ((R6'.out.alloc (.cells Z9.toArray 23)).heap (HC.out.2 _ (by have := LT.out; omega)))
      have R8 := Lib.hid ((R8'.out.alloc (.cells Z9.toArray 23)).heap (HC.out.2 _ (by have := LT.out; omega)))
      clear R4' R6' R8' BQ' N11 BA HC
      have e0 : w3.cell? ⟨w2.heap.size, 0, none⟩ = some (.string (strOfNums q.u)) := RC.out.cell 0
      go_wp2_with fail
      clear e0
      refine (SU.out (strOfNums q.u) w3 BQ.out).mono ?_
      rintro e w4 ⟨rfl, rfl⟩
      have q0 := fun x : BW w3 => RC.out.later x 3
      have q1 := fun x : BW w3 => R6.out.later x 1
      have q2 := fun x : BW w3 => R6.out.later x 0
      have q3 := fun x : BW w3 => R6.out.later x 5
      have q4 := fun x : BW w3 => RC.out.later x 4
      simp only [List.getElem?_cons_succ, List.getElem?_cons_zero] at q0 q1 q2 q3 q4
      have HS := Lib.hid (getD_size HUS.out)
      generalize hK : findK us (strOfNums q.u) = K at *
      have HK := Lib.hid hK
      clear hK
      cases hq1 : ((strOfNums q.i).toList == uri.toList) with
      | false =>
        have E := Lib.hid (VW.out q NB.out rfl (wrong_uri hq1))
        obtain ⟨s, b, hs⟩ := secV_form us K
        rw [hs]
        clear hs
        go_wp2_with fail
        refine region_bw (by kernel_rfl) (by kernel_rfl) ?_
        iterate 21 go_big_quiet_step (fail)
        refine wpQuiet_nil ?_
        rintro _ ⟨x, rfl⟩
        obtain ⟨wx, hx⟩ : ∃ wx, wx = x.w := ⟨_, rfl⟩
        have BX := Lib.hid (show Below w3.heap.size w3 wx by rw [hx]; exact x.h)
        rw [← hx]
        clear hx x
        have R4' := Lib.hid (R4.out.below BX.out); have R6' := Lib.hid (R6.out.below BX.out); have R8' := Lib.hid (R8.out.below BX.out); have RC' := Lib.hid (RC.out.below BX.out); have BQ' := Lib.hid (bthen BQ.out BX.out)
        clear R4 R6 R8 RC BQ BX
        have R4 := R4'; have R6 := R6'; have R8 := R8'; have RC := RC'; have BQ := BQ'
        clear R4' R6' R8' RC' BQ'
        clear q0 q1 q2 q3 q4 hq1
        go_wp2_with (first
          | (with_reducible refine wpList_loadR rfl 49 (.tmp 4) rfl R4.out rfl Tryz.underlying49 rfl (sizeG _ _ _ _ _) ?_)
          | (with_reducible refine wpList_storeR rfl 49 (.tmp 8) (.tmp 72) rfl R8.out [.string re, .string ke, .int .i64 life, .int .i64 iss, .slice Ea en ec] rfl rfl (lenG _ _ _ _ _ _ _ _ _ _) (sizeG _ _ _ _ _) (g_one _ _ _ _ _ _ _) BQ.out (by omega) ?_))
        intro w9 R9 B9 _
        go_wp2_with fail
        exact bodyPost_ret (results_ctu rfl _ _ _ (w.heap.size + 1 + 1) [.string re, .string ke, .int .i64 life, .int .i64 iss, .slice Ea en ec] _ rfl R9.out.range Tryz.underlying49 rfl (sizeG _ _ _ _ _)) rfl (by exact VerP.of E.out B9.out HEN.out ((hE.below B9.out).up B9.out.size))
      | true =>
        cases K with
        | none =>
          have E := Lib.hid (VW.out q NB.out rfl (wrong_user HK.out))
          rw [show secV us none = .tuple #[.string ⟨#[]⟩, .bool false] from rfl]
          go_wp2_with fail
          refine region_bw (by kernel_rfl) (by kernel_rfl) ?_
          iterate 21 go_big_quiet_step (fail)
          refine wpQuiet_nil ?_
          rintro _ ⟨x, rfl⟩
          obtain ⟨wx, hx⟩ : ∃ wx, wx = x.w := ⟨_, rfl⟩
          have BX := Lib.hid (show Below w3.heap.size w3 wx by rw [hx]; exact x.h)
          rw [← hx]
          clear hx x
          have R4' := Lib.hid (R4.out.below BX.out); have R6' := Lib.hid (R6.out.below BX.out); have R8' := Lib.hid (R8.out.below BX.out); have RC' := Lib.hid (RC.out.below BX.out); have BQ' := Lib.hid (bthen BQ.out BX.out)
          clear R4 R6 R8 RC BQ BX
          have R4 := R4'; have R6 := R6'; have R8 := R8'; have RC := RC'; have BQ := BQ'
          clear R4' R6' R8' RC' BQ'
          clear q0 q1 q2 q3 q4 hq1
          go_wp2_with (first
            | (with_reducible refine wpList_loadR rfl 49 (.tmp 4) rfl R4.out rfl Tryz.underlying49 rfl (sizeG _ _ _ _ _) ?_)
            | (with_reducible refine wpList_storeR rfl 49 (.tmp 8) (.tmp 72) rfl R8.out [.string re, .string ke, .int .i64 life, .int .i64 iss, .slice Ea en ec] rfl rfl (lenG _ _ _ _ _ _ _ _ _ _) (sizeG _ _ _ _ _) (g_one _ _ _ _ _ _ _) BQ.out (by omega) ?_))
          intro w9 R9 B9 _
          go_wp2_with fail
          exact bodyPost_ret (results_ctu rfl _ _ _ (w.heap.size + 1 + 1) [.string re, .string ke, .int .i64 life, .int .i64 iss, .slice Ea en ec] _ rfl R9.out.range Tryz.underlying49 rfl (sizeG _ _ _ _ _)) rfl (by exact VerP.of E.out B9.out HEN.out ((hE.below B9.out).up B9.out.size))
        | some k =>
          have WR := Lib.hid (wrong_resp (ms := ms) (bs := bs) hq1 HK.out)
          have HSk := Lib.hid (HS.out k)
          rw [secV_some rfl]
          generalize (us.getD k (⟨#[]⟩, ⟨#[]⟩)).2 = ss at *
          have RR := Lib.hid (fun (X : World) (b : Below w.heap.size w X) => refresponse_any ss ms (strOfNums q.u) (strOfNums q.r) (strOfNums q.n) (strOfNums q.i) (strOfNums q.p) (strOfNums q.c) (strOfNums q.o) q.k (q.k % 4294967296) q.g B m d bs X HBY.out HM.out ((hB.below b).up b.size) rfl (by rw [num_size, num_size]; have := HSk.out; have := QOK.out.n.2; have := QOK.out.c.2; omega) (by rw [num_size]; have := QOK.out.i.2; omega) hM)
          rw [show respL (byteL ss) (byteL (strOfNums q.n)) (q.k % 4294967296) (byteL (strOfNums q.c)) q.g (byteL (strOfNums q.i)) (byteL ms) bs = respV ms bs ss q from rfl] at RR
          generalize respV ms bs ss q = rp at *
          have RQ := Lib.hid (fun (x : BW w3) => RR.out x.w (bthen BQ.out x.h))
          go_wp2_with fail
          cases hq2 : ((strOfNums rp).toList == (strOfNums q.p).toList) with
          | false =>
            have E := Lib.hid (VW.out q NB.out rfl (by rw [WR.out, hq2]; rfl))
            refine region_bw (by kernel_rfl) (by kernel_rfl) ?_
            iterate 11 go_big_quiet_step (fail)
            go_big_quiet_want
            refine quiet_load 23 (.tmp 11) rfl w2.heap.size rfl _ 23 _ RC.out Tryz.underlying23 rfl (sizeL9 _ _ _ _ _ _ _ _ _) ?_
            simp only [Act.put, List.setIfInBounds_toArray, List.set_cons_zero, List.set_cons_succ]
            go_big_quiet_on
            iterate 4 go_big_quiet_step (fail)
            go_big_quiet_step (exact calls_bw (RQ.out _))
            iterate 4 go_big_quiet_step (fail)
            refine wpQuiet_nil ?_
            rintro _ ⟨x, rfl⟩
            obtain ⟨wx, hx⟩ : ∃ wx, wx = x.w := ⟨_, rfl⟩
            have BX := Lib.hid (show Below w3.heap.size w3 wx by rw [hx]; exact x.h)
            rw [← hx]
            clear hx x
            have R4' := Lib.hid (R4.out.below BX.out); have R6' := Lib.hid (R6.out.below BX.out); have R8' := Lib.hid (R8.out.below BX.out); have RC' := Lib.hid (RC.out.below BX.out); have BQ' := Lib.hid (bthen BQ.out BX.out)
            clear R4 R6 R8 RC BQ BX
            have R4 := R4'; have R6 := R6'; have R8 := R8'; have RC := RC'; have BQ := BQ'
            clear R4' R6' R8' RC' BQ'
            clear q0 q1 q2 q3 q4 hq1 hq2
            go_wp2_with (first
              | (with_reducible refine wpList_loadR rfl 49 (.tmp 4) rfl R4.out rfl Tryz.underlying49 rfl (sizeG _ _ _ _ _) ?_)
              | (with_reducible refine wpList_storeR rfl 49 (.tmp 8) (.tmp 72) rfl R8.out [.string re, .string ke, .int .i64 life, .int .i64 iss, .slice Ea en ec] rfl rfl (lenG _ _ _ _ _ _ _ _ _ _) (sizeG _ _ _ _ _) (g_one _ _ _ _ _ _ _) BQ.out (by omega) ?_))
            intro w9 R9 B9 _
            go_wp2_with fail
            exact bodyPost_ret (results_ctu rfl _ _ _ (w.heap.size + 1 + 1) [.string re, .string ke, .int .i64 life, .int .i64 iss, .slice Ea en ec] _ rfl R9.out.range Tryz.underlying49 rfl (sizeG _ _ _ _ _)) rfl (by exact VerP.of E.out B9.out HEN.out ((hE.below B9.out).up B9.out.size))
          | true =>
            have WF := Lib.hid (show wrongV us uri ms bs q = false by rw [WR.out, hq2]; rfl)
            have FX := Lib.hid (fun (k : Int) l2 h4 hk => VK.out q k l2 NB.out rfl WF.out h4 hk)
            have FY := Lib.hid (fun l2 h4 => VY.out q l2 NB.out rfl WF.out h4)
            clear VK VY VW VN
            refine region_bw (by kernel_rfl) (by kernel_rfl) ?_
            iterate 11 go_big_quiet_step (fail)
            go_big_quiet_want
            refine quiet_load 23 (.tmp 11) rfl w2.heap.size rfl _ 23 _ RC.out Tryz.underlying23 rfl (sizeL9 _ _ _ _ _ _ _ _ _) ?_
            simp only [Act.put, List.setIfInBounds_toArray, List.set_cons_zero, List.set_cons_succ]
            go_big_quiet_on
            iterate 4 go_big_quiet_step (fail)
            go_big_quiet_step (exact calls_bw (RQ.out _))
            iterate 4 go_big_quiet_step (fail)
            refine wpQuiet_nil ?_
            rintro _ ⟨x, rfl⟩
            obtain ⟨wx, hx⟩ : ∃ wx, wx = x.w := ⟨_, rfl⟩
            have BX := Lib.hid (show Below w3.heap.size w3 wx by rw [hx]; exact x.h)
            rw [← hx]
            clear hx x
            have R4' := Lib.hid (R4.out.below BX.out); have R6' := Lib.hid (R6.out.below BX.out); have R8' := Lib.hid (R8.out.below BX.out); have RC' := Lib.hid (RC.out.below BX.out); have BQ' := Lib.hid (bthen BQ.out BX.out)
            clear R4 R6 R8 RC BQ BX
            have R4 := R4'; have R6 := R6'; have R8 := R8'; have RC := RC'; have BQ := BQ'
            clear R4' R6' R8' RC' BQ'
            clear q0 q1 q2 q3 q4 hq1 hq2 RR RQ WR HS HSk HK SU POK
            have e4 : wx.cell? ⟨w.heap.size, 4, none⟩ = some (.slice Ea en ec) := R4.out.cell 4
            go_wp2_with fail
            clear e4
            have BOK := Lib.hid (badV_ok NB.out)
            go_loopw [15] (fun v wr => ∃ j : Nat, j ≤ en ∧ v = .int .i64 ((j : Int) - 1) ∧ Hid (findB l (strOfNums q.n) = findBk l (strOfNums q.n) j) ∧ Hid (Below wx.heap.size wx wr)) (fun v _ => (intOf v + 1).toNat)
            case atStart => exact ⟨en, Nat.le_refl _, rfl, Lib.hid (by unfold findB; rw [HEN.out]), Lib.hid (Below.refl _ _)⟩
            case round =>
              obtain ⟨j, hj, rfl, HF, BR⟩ := hrel
              have R4' := Lib.hid (R4.out.below BR.out); have R6' := Lib.hid (R6.out.below BR.out); have R8' := Lib.hid (R8.out.below BR.out); have RC' := Lib.hid (RC.out.below BR.out); have BQ' := Lib.hid (bthen BQ.out BR.out)
              clear R4 R6 R8 RC BQ
              have R4 := R4'; have R6 := R6'; have R8 := R8'; have RC := RC'; have BQ := BQ'
              clear R4' R6' R8' RC' BQ'
              cases j with
              | zero =>
                rw [show (((0 : Nat) : Int) - 1) = -1 from rfl]
                have F := Lib.hid (show findB l (strOfNums q.n) = none from HF.out)
                have E := Lib.hid (FX.out 13 l (nonce_none F.out) (by decide))
                go_wp2_with fail
                refine region_bw (by kernel_rfl) (by kernel_rfl) ?_
                iterate 13 go_big_quiet_step (fail)
                refine wpQuiet_nil ?_
                rintro _ ⟨x, rfl⟩
                obtain ⟨wy, hx⟩ : ∃ wy, wy = x.w := ⟨_, rfl⟩
                have BX := Lib.hid (show Below wr.heap.size wr wy by rw [hx]; exact x.h)
                rw [← hx]
                clear hx x
                have R4' := Lib.hid (R4.out.below BX.out); have R6' := Lib.hid (R6.out.below BX.out); have R8' := Lib.hid (R8.out.below BX.out); have RC' := Lib.hid (RC.out.below BX.out); have BQ' := Lib.hid (bthen BQ.out BX.out)
                clear R4 R6 R8 RC BQ
                have R4 := R4'; have R6 := R6'; have R8 := R8'; have RC := RC'; have BQ := BQ'
                clear R4' R6' R8' RC' BQ'
                go_wp2_with fail
                refine region_bw (by kernel_rfl) (by kernel_rfl) ?_
                iterate 15 go_big_quiet_step (fail)
                refine wpQuiet_nil ?_
                rintro _ ⟨x, rfl⟩
                obtain ⟨wz, hx⟩ : ∃ wz, wz = x.w := ⟨_, rfl⟩
                have BX := Lib.hid (show Below wy.heap.size wy wz by rw [hx]; exact x.h)
                rw [← hx]
                clear hx x
                have R4' := Lib.hid (R4.out.below BX.out); have R6' := Lib.hid (R6.out.below BX.out); have R8' := Lib.hid (R8.out.below BX.out); have RC' := Lib.hid (RC.out.below BX.out); have BQ' := Lib.hid (bthen BQ.out BX.out)
                clear R4 R6 R8 RC BQ
                have R4 := R4'; have R6 := R6'; have R8 := R8'; have RC := RC'; have BQ := BQ'
                clear R4' R6' R8' RC' BQ'
                go_wp2_with (first
                  | (with_reducible refine wpList_loadR rfl 49 (.tmp 4) rfl R4.out rfl Tryz.underlying49 rfl (sizeG _ _ _ _ _) ?_)
                  | (with_reducible refine wpList_storeR rfl 49 (.tmp 8) (.tmp 107) rfl R8.out [.string re, .string ke, .int .i64 life, .int .i64 iss, .slice Ea en ec] rfl rfl (lenG _ _ _ _ _ _ _ _ _ _) (sizeG _ _ _ _ _) (g_one _ _ _ _ _ _ _) BQ.out (by omega) ?_))
                intro w9 R9 B9 _
                go_wp2_with fail
                exact bodyPost_ret (results_ctu rfl _ _ _ (w.heap.size + 1 + 1) [.string re, .string ke, .int .i64 life, .int .i64 iss, .slice Ea en ec] _ rfl R9.out.range Tryz.underlying49 rfl (sizeG _ _ _ _ _)) rfl (by exact VerP.of E.out B9.out HEN.out ((hE.below B9.out).up B9.out.size))
              | succ j =>
                rw [show (((j + 1 : Nat) : Int) - 1) = (j : Int) by omega]
                obtain ⟨p, hp⟩ : ∃ p, l[j]? = some p := ⟨_, List.getElem?_eq_getElem (by rw [HEN.out]; omega)⟩
                obtain ⟨x1, o1, rfl, hx1, hc1⟩ := hE (by rw [ncs_len, HEN.out]; omega)
                have NC := Lib.hid (fun (X : World) (b : Below w.heap.size w X) (i : Nat) (u : Value) (h : [.string p.v, .int .i64 p.a, .int .i64 p.k][i]? = some u) => show X.cell? ⟨x1, o1 + j * 3 + i, none⟩ = some u from (b.cell (p := ⟨x1, _, none⟩) hx1).trans (by have := hc1 _ _ (ncs_at hp i u h); rwa [← Nat.add_assoc] at this))
                obtain ⟨pa0, pa1⟩ := BOK.out p (List.mem_of_getElem? hp)
                have i0 : (0 : Int) ≤ (j : Int) := by omega
                have i1 : (j : Int) < (en : Int) := by omega
                have j0 : decide ((j : Int) < 0) = false := by simp [show ¬ ((j : Int) < 0) by omega]
                have j1 : decide ((0 : Int) ≤ (j : Int)) = true := by simp
                have q0 := fun x : BW wr => R4.out.later x 4
                have q1 := fun x : BW wr => RC.out.later x 2
                have q2 := fun x : BW wr => NC.out x.w (bthen BQ.out x.h) 0 _ rfl
                simp only [List.getElem?_cons_succ, List.getElem?_cons_zero, Nat.add_zero] at q0 q1 q2
                go_wp2_with fail
                cases hq : hitN (strOfNums q.n) p with
                | false =>
                  have HF2 := Lib.hid (HF.out.trans (findBk_no hp hq))
                  unfold hitN at hq
                  clear HF hp hc1 pa0 pa1
                  refine region_bw (by kernel_rfl) (by kernel_rfl) ?_
                  iterate 13 go_big_quiet_step (fail)
                  refine wpQuiet_nil ?_
                  rintro _ ⟨x, rfl⟩
                  obtain ⟨wy, hx⟩ : ∃ wy, wy = x.w := ⟨_, rfl⟩
                  have BX := Lib.hid (show Below wr.heap.size wr wy by rw [hx]; exact x.h)
                  rw [← hx]
                  clear hx x
                  have R4' := Lib.hid (R4.out.below BX.out); have R6' := Lib.hid (R6.out.below BX.out); have R8' := Lib.hid (R8.out.below BX.out); have RC' := Lib.hid (RC.out.below BX.out); have BQ' := Lib.hid (bthen BQ.out BX.out)
                  clear R4 R6 R8 RC BQ
                  have R4 := R4'; have R6 := R6'; have R8 := R8'; have RC := RC'; have BQ := BQ'
                  clear R4' R6' R8' RC' BQ'
                  clear q0 q1 q2 hq
                  go_wp2_with fail
                  go_roundw
                  case rel => exact ⟨j, by omega, by go_num, HF2, Lib.hid (bthen BR.out BX.out)⟩
                  case measure => simp [intOf]
                | true =>
                  have F := Lib.hid (HF.out.trans (findBk_yes hp hq))
                  unfold hitN at hq
                  have HPj := Lib.hid hp
                  clear HF hp hc1
                  refine region_bw (by kernel_rfl) (by kernel_rfl) ?_
                  iterate 13 go_big_quiet_step (fail)
                  refine wpQuiet_nil ?_
                  rintro _ ⟨x, rfl⟩
                  obtain ⟨wy, hx⟩ : ∃ wy, wy = x.w := ⟨_, rfl⟩
                  have BX := Lib.hid (show Below wr.heap.size wr wy by rw [hx]; exact x.h)
                  rw [← hx]
                  clear hx x
                  have R4' := Lib.hid (R4.out.below BX.out); have R6' := Lib.hid (R6.out.below BX.out); have R8' := Lib.hid (R8.out.below BX.out); have RC' := Lib.hid (RC.out.below BX.out); have BQ' := Lib.hid (bthen BQ.out BX.out)
                  clear R4 R6 R8 RC BQ
                  have R4 := R4'; have R6 := R6'; have R8 := R8'; have RC := RC'; have BQ := BQ'
                  clear R4' R6' R8' RC' BQ'
                  clear q0 q1 q2 hq BX
                  go_wp2_with fail
                  have hw : IntKind.i64.wrap (now - p.a) = now - p.a := IntWalk.i64_in _ (by omega)
                  have q0 := fun x : BW wy => R4.out.later x 4
                  have q1 := fun x : BW wy => R4.out.later x 2
                  have q2 := fun x : BW wy => NC.out x.w (bthen BQ.out x.h) 1 _ rfl
                  simp only [List.getElem?_cons_succ, List.getElem?_cons_zero] at q0 q1 q2
                  by_cases hq3 : life < now - p.a
                  · have E := Lib.hid (FX.out 13 l (nonce_old F.out HPj.out hq3) (by decide))
                    have d : decide (life < now - p.a) = true := by simp [hq3]
                    clear hq3
                    refine region_bw (by kernel_rfl) (by kernel_rfl) ?_
                    iterate 15 go_big_quiet_step (fail)
                    refine wpQuiet_nil ?_
                    rintro _ ⟨x, rfl⟩
                    obtain ⟨wz, hx⟩ : ∃ wz, wz = x.w := ⟨_, rfl⟩
                    have BX := Lib.hid (show Below wy.heap.size wy wz by rw [hx]; exact x.h)
                    rw [← hx]
                    clear hx x
                    have R4' := Lib.hid (R4.out.below BX.out); have R6' := Lib.hid (R6.out.below BX.out); have R8' := Lib.hid (R8.out.below BX.out); have RC' := Lib.hid (RC.out.below BX.out); have BQ' := Lib.hid (bthen BQ.out BX.out)
                    clear R4 R6 R8 RC BQ
                    have R4 := R4'; have R6 := R6'; have R8 := R8'; have RC := RC'; have BQ := BQ'
                    clear R4' R6' R8' RC' BQ'
                    clear q0 q1 q2 hw d BX
                    go_wp2_with (first
                      | (with_reducible refine wpList_loadR rfl 49 (.tmp 4) rfl R4.out rfl Tryz.underlying49 rfl (sizeG _ _ _ _ _) ?_)
                      | (with_reducible refine wpList_storeR rfl 49 (.tmp 8) (.tmp 107) rfl R8.out [.string re, .string ke, .int .i64 life, .int .i64 iss, .slice (some ⟨x1, o1, none⟩) en ec] rfl rfl (lenG _ _ _ _ _ _ _ _ _ _) (sizeG _ _ _ _ _) (g_one _ _ _ _ _ _ _) BQ.out (by omega) ?_))
                    intro w9 R9 B9 _
                    go_wp2_with fail
                    exact bodyPost_ret (results_ctu rfl _ _ _ (w.heap.size + 1 + 1) [.string re, .string ke, .int .i64 life, .int .i64 iss, .slice (some ⟨x1, o1, none⟩) en ec] _ rfl R9.out.range Tryz.underlying49 rfl (sizeG _ _ _ _ _)) rfl (by exact VerP.of E.out B9.out HEN.out ((hE.below B9.out).up B9.out.size))
                  · have d : decide (life < now - p.a) = false := by simp only [decide_eq_false_iff_not]; exact hq3
                    have H3 := Lib.hid hq3
                    clear hq3
                    refine region_bw (by kernel_rfl) (by kernel_rfl) ?_
                    iterate 15 go_big_quiet_step (fail)
                    refine wpQuiet_nil ?_
                    rintro _ ⟨x, rfl⟩
                    obtain ⟨wz, hx⟩ : ∃ wz, wz = x.w := ⟨_, rfl⟩
                    have BX := Lib.hid (show Below wy.heap.size wy wz by rw [hx]; exact x.h)
                    rw [← hx]
                    clear hx x
                    have R4' := Lib.hid (R4.out.below BX.out); have R6' := Lib.hid (R6.out.below BX.out); have R8' := Lib.hid (R8.out.below BX.out); have RC' := Lib.hid (RC.out.below BX.out); have BQ' := Lib.hid (bthen BQ.out BX.out)
                    clear R4 R6 R8 RC BQ
                    have R4 := R4'; have R6 := R6'; have R8 := R8'; have RC := RC'; have BQ := BQ'
                    clear R4' R6' R8' RC' BQ'
                    clear q0 q1 q2 hw d BX
                    go_wp2_with fail
                    have q0 := fun x : BW wz => R4.out.later x 4
                    have q1 := fun x : BW wz => RC.out.later x 7
                    have q2 := fun x : BW wz => NC.out x.w (bthen BQ.out x.h) 2 _ rfl
                    simp only [List.getElem?_cons_succ, List.getElem?_cons_zero] at q0 q1 q2
                    by_cases hq4 : q.k ≤ p.k
                    · have E := Lib.hid (FX.out 7 l (nonce_used F.out HPj.out (by have := H3.out; omega) hq4) (by decide))
                      have d : decide (q.k ≤ p.k) = true := by simp [hq4]
                      clear hq4
                      refine region_bw (by kernel_rfl) (by kernel_rfl) ?_
                      iterate 9 go_big_quiet_step (fail)
                      refine wpQuiet_nil ?_
                      rintro _ ⟨x, rfl⟩
                      obtain ⟨wt, hx⟩ : ∃ wt, wt = x.w := ⟨_, rfl⟩
                      have BX := Lib.hid (show Below wz.heap.size wz wt by rw [hx]; exact x.h)
                      rw [← hx]
                      clear hx x
                      have R4' := Lib.hid (R4.out.below BX.out); have R6' := Lib.hid (R6.out.below BX.out); have R8' := Lib.hid (R8.out.below BX.out); have RC' := Lib.hid (RC.out.below BX.out); have BQ' := Lib.hid (bthen BQ.out BX.out)
                      clear R4 R6 R8 RC BQ
                      have R4 := R4'; have R6 := R6'; have R8 := R8'; have RC := RC'; have BQ := BQ'
                      clear R4' R6' R8' RC' BQ'
                      clear q0 q1 q2 d BX
                      go_wp2_with (first
                        | (with_reducible refine wpList_loadR rfl 49 (.tmp 4) rfl R4.out rfl Tryz.underlying49 rfl (sizeG _ _ _ _ _) ?_)
                        | (with_reducible refine wpList_storeR rfl 49 (.tmp 8) (.tmp 117) rfl R8.out [.string re, .string ke, .int .i64 life, .int .i64 iss, .slice (some ⟨x1, o1, none⟩) en ec] rfl rfl (lenG _ _ _ _ _ _ _ _ _ _) (sizeG _ _ _ _ _) (g_one _ _ _ _ _ _ _) BQ.out (by omega) ?_))
                      intro w9 R9 B9 _
                      go_wp2_with fail
                      exact bodyPost_ret (results_ctu rfl _ _ _ (w.heap.size + 1 + 1) [.string re, .string ke, .int .i64 life, .int .i64 iss, .slice (some ⟨x1, o1, none⟩) en ec] _ rfl R9.out.range Tryz.underlying49 rfl (sizeG _ _ _ _ _)) rfl (by exact VerP.of E.out B9.out HEN.out ((hE.below B9.out).up B9.out.size))
                    · have E := Lib.hid (FY.out _ (nonce_new F.out HPj.out (by have := H3.out; omega) (by omega)))
                      have d : decide (q.k ≤ p.k) = false := by simp only [decide_eq_false_iff_not]; exact hq4
                      clear hq4
                      refine region_bw (by kernel_rfl) (by kernel_rfl) ?_
                      iterate 9 go_big_quiet_step (fail)
                      refine wpQuiet_nil ?_
                      rintro _ ⟨x, rfl⟩
                      obtain ⟨wt, hx⟩ : ∃ wt, wt = x.w := ⟨_, rfl⟩
                      have BX := Lib.hid (show Below wz.heap.size wz wt by rw [hx]; exact x.h)
                      rw [← hx]
                      clear hx x
                      have R4' := Lib.hid (R4.out.below BX.out); have R6' := Lib.hid (R6.out.below BX.out); have R8' := Lib.hid (R8.out.below BX.out); have RC' := Lib.hid (RC.out.below BX.out); have BQ' := Lib.hid (bthen BQ.out BX.out)
                      clear R4 R6 R8 RC BQ
                      have R4 := R4'; have R6 := R6'; have R8 := R8'; have RC := RC'; have BQ := BQ'
                      clear R4' R6' R8' RC' BQ'
                      clear q0 q1 q2 d BX
                      have e4 : wt.cell? ⟨w.heap.size, 4, none⟩ = some (.slice (some ⟨x1, o1, none⟩) en ec) := R4.out.cell 4
                      have HEt := Lib.hid (hE.below BQ.out)
                      have V0 := Lib.hid (VX.nil 76 3 wt)
                      obtain ⟨ii, hii, hiz, hisz, hibt⟩ := infoNc
                      have HI := Lib.hid hii; have HZ := Lib.hid hiz; have HIS := Lib.hid hisz; have HIT := Lib.hid hibt
                      clear hii hiz hisz hibt
                      go_wp2_with (with_reducible refine wpList_append_own _ rfl (.tmp 118) (.tmp 120) 47 rfl wt.heap.size 76 ii (.agg #[.string ⟨#[]⟩, .int .i64 0, .int .i64 0]) 3 32 Tryz.underlying47 HI.out HZ.out HIS.out HIT.out rfl (by decide) (.slice none 0 0) 0 [] rfl V0.out.o ⟨x1, o1, none⟩ en ec (ncs l) rfl (by rw [ncs_len, HEN.out]) ?h1 (ncs_one l) (by unfold maxLen; omega) (by omega) (Nat.le_refl _) ?h2)
                      case h1 =>
                        intro i u hu
                        obtain ⟨b, o, e, _, hc⟩ := HEt.out (by have := (List.getElem?_eq_some_iff.1 hu).1; omega)
                        cases e
                        rw [Addr.add_mid]
                        exact hc i u hu
                      case h2 =>
                        clear e4
                        intro v' wu h1 h2 _
                        have h3 : wu.ownsRow wt.heap.size 76 3 v' en (ncs l) := by simpa using h1
                        have VXn := Lib.hid (show VX 76 3 wt v' en (ncs l) wu from ⟨h3, (Below.refl wt.heap.size wt).grown h2 (Nat.le_refl _) (fun k hk => by simp [Value.ownBlock] at hk)⟩)
                        clear h1 h2 h3
                        rcases VXn.out.o.2 with ⟨_, e0⟩ | ⟨gb, gc, cur, rfl, hgb, hblk, hrest⟩
                        · first
                            | omega
                            | (obtain ⟨e1, _⟩ := e0; omega)
                        have FZ : wu.frozen? ⟨gb, j * 3 + 2, none⟩ = false := by simp [World.frozen?, hblk]
                        have LGB := Lib.hid (lt_of_block hblk)
                        clear hrest hblk
                        have CG := Lib.hid (show ∀ i u, (ncs l)[i]? = some u → wu.cell? ⟨gb, i, none⟩ = some u by
                          rcases VXn.out.form with ⟨e1, _⟩ | ⟨g2, c2, e1, _, _, _, hcell⟩
                          · cases e1
                          · injection e1 with e2 e3 e4
                            injection e2 with e5
                            injection e5 with e6
                            subst e6
                            exact hcell)
                        have CK : wu.cell? ⟨gb, j * 3 + 2, none⟩ = some (.int .i64 p.k) := CG.out _ _ (ncs_at HPj.out 2 _ rfl)
                        have R4' := Lib.hid (R4.out.below VXn.out.bw); have R8' := Lib.hid (R8.out.below VXn.out.bw); have RC' := Lib.hid (RC.out.below VXn.out.bw); have BQ' := Lib.hid (bthen BQ.out VXn.out.bw)
                        have N8 : w.heap.size + 1 + 1 < gb := Nat.lt_of_lt_of_le R8.out.lt hgb
                        have NC11 : w2.heap.size < gb := Nat.lt_of_lt_of_le RC.out.lt hgb
                        have e7 : wu.cell? ⟨w2.heap.size, 7, none⟩ = some (.int .i64 q.k) := RC'.out.cell 7
                        have T4 := Lib.hid (show Row (wu.setCell ⟨gb, j * 3 + 2, none⟩ (.int .i64 q.k)) w.heap.size 49 [.string re, .string ke, .int .i64 life, .int .i64 iss, .slice (some ⟨x1, o1, none⟩) en ec] from R4'.out.setOther (by omega) _)
                        have T8 := Lib.hid (show Row (wu.setCell ⟨gb, j * 3 + 2, none⟩ (.int .i64 q.k)) (w.heap.size + 1 + 1) 49 [.string ⟨#[]⟩, .string ⟨#[]⟩, .int .i64 0, .int .i64 0, .slice none 0 0] from R8'.out.setOther (by omega) _)
                        have TC := Lib.hid (show Row (wu.setCell ⟨gb, j * 3 + 2, none⟩ (.int .i64 q.k)) w2.heap.size 23 [.string (strOfNums q.u), .string (strOfNums q.r), .string (strOfNums q.n), .string (strOfNums q.i), .string (strOfNums q.p), .string (strOfNums q.c), .string (strOfNums q.o), .int .i64 q.k, .bool q.g] from RC'.out.setOther (by omega) _)
                        have TB := Lib.hid (show Below w.heap.size w (wu.setCell ⟨gb, j * 3 + 2, none⟩ (.int .i64 q.k)) from BQ'.out.setCell (by dsimp only; omega) _)
                        have CG2 := Lib.hid (show ∀ i u, (ncs (l.set j ⟨p.v, p.a, q.k⟩))[i]? = some u → (wu.setCell ⟨gb, j * 3 + 2, none⟩ (.int .i64 q.k)).cell? ⟨gb, i, none⟩ = some u from ncs_stored HPj.out CG.out)
                        clear R4 R6 R8 RC BQ R4' R8' RC' BQ' CG VXn V0 HI HZ HIS HIT hgb
                        have g4 : (wu.setCell ⟨gb, j * 3 + 2, none⟩ (.int .i64 q.k)).cell? ⟨w.heap.size, 4, none⟩ = some (.slice (some ⟨x1, o1, none⟩) en ec) := T4.out.cell 4
                        have g4f := T4.out.frozen 4
                        have U4 := Lib.hid (show Row ((wu.setCell ⟨gb, j * 3 + 2, none⟩ (.int .i64 q.k)).setCell ⟨w.heap.size, 4, none⟩ (.slice (some ⟨gb, 0, none⟩) en gc)) w.heap.size 49 [.string re, .string ke, .int .i64 life, .int .i64 iss, .slice (some ⟨gb, 0, none⟩) en gc] from T4.out.set 4 _)
                        have U8 := Lib.hid (show Row ((wu.setCell ⟨gb, j * 3 + 2, none⟩ (.int .i64 q.k)).setCell ⟨w.heap.size, 4, none⟩ (.slice (some ⟨gb, 0, none⟩) en gc)) (w.heap.size + 1 + 1) 49 [.string ⟨#[]⟩, .string ⟨#[]⟩, .int .i64 0, .int .i64 0, .slice none 0 0] from T8.out.setOther (by omega) _)
                        have UC := Lib.hid (show Row ((wu.setCell ⟨gb, j * 3 + 2, none⟩ (.int .i64 q.k)).setCell ⟨w.heap.size, 4, none⟩ (.slice (some ⟨gb, 0, none⟩) en gc)) w2.heap.size 23 [.string (strOfNums q.u), .string (strOfNums q.r), .string (strOfNums q.n), .string (strOfNums q.i), .string (strOfNums q.p), .string (strOfNums q.c), .string (strOfNums q.o), .int .i64 q.k, .bool q.g] from TC.out.setOther (by have := LT.out; omega) _)
                        have UB := Lib.hid (show Below w.heap.size w ((wu.setCell ⟨gb, j * 3 + 2, none⟩ (.int .i64 q.k)).setCell ⟨w.heap.size, 4, none⟩ (.slice (some ⟨gb, 0, none⟩) en gc)) from TB.out.setCell (by exact Nat.le_refl _) _)
                        have CG3 := Lib.hid (show ∀ i u, (ncs (l.set j ⟨p.v, p.a, q.k⟩))[i]? = some u → ((wu.setCell ⟨gb, j * 3 + 2, none⟩ (.int .i64 q.k)).setCell ⟨w.heap.size, 4, none⟩ (.slice (some ⟨gb, 0, none⟩) en gc)).cell? ⟨gb, i, none⟩ = some u from fun i u hu => (World.cell?_setCell_other _ _ _ _ (by intro e; injection e with e1; omega)).trans (CG2.out i u hu))
                        clear T4 T8 TC TB CG2
                        go_wp2_with fail
                        clear g4 g4f e7 CK FZ
                        generalize ((wu.setCell ⟨gb, j * 3 + 2, none⟩ (.int .i64 q.k)).setCell ⟨w.heap.size, 4, none⟩ (.slice (some ⟨gb, 0, none⟩) en gc)) = wv at *
                        obtain ⟨k0, k1', k2', k3, k4⟩ := U4.out.five
                        obtain ⟨z0, z1, z2, z3, z4⟩ := U8.out.five
                        have c0 : wv.cell? ⟨w2.heap.size, 0, none⟩ = some (.string (strOfNums q.u)) := UC.out.cell 0
                        have f0 := U8.out.frozen 0; have f1 := U8.out.frozen 1; have f2 := U8.out.frozen 2; have f3 := U8.out.frozen 3; have f4 := U8.out.frozen 4
                        have kk : ∀ (X : World) (o : Nat) (u : Value), (X.setCell ⟨w.heap.size + 1 + 1, o, none⟩ u).cell? ⟨w2.heap.size, 0, none⟩ = X.cell? ⟨w2.heap.size, 0, none⟩ := fun X o u => World.cell?_setCell_other _ _ _ _ (by intro e; injection e with e1; exact absurd e1 (Nat.ne_of_lt LT.out))
                        have rs := (U8.out.setAll [.string re, .string ke, .int .i64 life, .int .i64 iss, .slice (some ⟨gb, 0, none⟩) en gc] rfl).drew
                        have bs2 := (below_setCells (by omega : w.heap.size ≤ (w.heap.size + 1 + 1)) [.string re, .string ke, .int .i64 life, .int .i64 iss, .slice (some ⟨gb, 0, none⟩) en gc] 0 _ UB.out).drew
                        have rd : ∀ i u, (ncs (l.set j ⟨p.v, p.a, q.k⟩))[i]? = some u → (wv.setCells (w.heap.size + 1 + 1) 0 [.string re, .string ke, .int .i64 life, .int .i64 iss, .slice (some ⟨gb, 0, none⟩) en gc]).drew.cell? ⟨gb, 0 + i, none⟩ = some u := fun i u hu => by
                          show (wv.setCells (w.heap.size + 1 + 1) 0 [.string re, .string ke, .int .i64 life, .int .i64 iss, .slice (some ⟨gb, 0, none⟩) en gc]).cell? ⟨gb, 0 + i, none⟩ = some u
                          rw [World.cell?_of_block (w := wv) (a := ⟨gb, 0 + i, none⟩) (heap_setCells [.string re, .string ke, .int .i64 life, .int .i64 iss, .slice (some ⟨gb, 0, none⟩) en gc] 0 wv gb (by omega)), Nat.zero_add]
                          exact CG3.out i u hu
                        simp only [World.setCells, Nat.zero_add, Nat.reduceAdd] at rs bs2 rd
                        have RS := Lib.hid rs; have BS := Lib.hid bs2; have RD := Lib.hid rd
                        clear rs bs2 rd CG3 U4 U8 UC UB
                        go_region
                        all_goals clear kk
                        all_goals
                          go_wp2_with fail
                          refine bodyPost_ret (results_ctu rfl _ _ _ (w.heap.size + 1 + 1) [.string re, .string ke, .int .i64 life, .int .i64 iss, .slice (some ⟨gb, 0, none⟩) en gc] _ rfl (by exact RS.out.range) Tryz.underlying49 rfl (sizeG _ _ _ _ _)) rfl (by exact VerP.of E.out BS.out (by rw [List.length_set]; exact HEN.out) (fun hn => ⟨gb, 0, rfl, World.block_lt_of_cell? _ _ (RD.out 0 _ (List.getElem?_eq_getElem hn)), fun i u hu => by have := RD.out i u hu; simpa using this⟩))
  · have d0 : (code != 0) = true := by simp [k0]
    clear k0
    have E := Lib.hid (VB.out (by rw [BV.out, d0]; rfl))
    go_wp2_with (with_reducible refine wpList_storeR rfl 49 (.tmp 8) (.tmp 33) rfl R8.out [.string ⟨#[]⟩, .string ⟨#[]⟩, .int .i64 0, .int .i64 0, .slice none 0 0] rfl rfl (lenG _ _ _ _ _ _ _ _ _ _) (sizeG _ _ _ _ _) (g_one _ _ _ _ _ _ _) BQ.out (by omega) ?_)
    intro w9 R9 B9 _
    go_wp2_with fail
    exact bodyPost_ret (results_ctu rfl _ _ _ (w.heap.size + 1 + 1) [.string ⟨#[]⟩, .string ⟨#[]⟩, .int .i64 0, .int .i64 0, .slice none 0 0] _ rfl R9.out.range Tryz.underlying49 rfl sizeG3) rfl (by exact VerP.zero E.out B9.out)
end Go.Proofs.YtfhbpgickkibmaaGreatDoor
