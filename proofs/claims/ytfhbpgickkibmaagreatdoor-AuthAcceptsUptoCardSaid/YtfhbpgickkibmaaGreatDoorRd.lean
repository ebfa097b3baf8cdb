/- What Verify answers; the reference's Verify. -/
import Derived.Test.YtfhbpgickkibmaaGreatDoorRc
import Derived.Test.YtfhbpgickkibmaaGreatDoorKc
import Derived.IntWalk
namespace Go.Proofs.YtfhbpgickkibmaaGreatDoor
open Go.RowKit

theorem presL_ok {hs : List (ByteArray × ByteArray)} {rs : List Int} {q : Cr} (hl : ∀ h ∈ hs, h.2.size ≤ 4000000) (h : presL hs rs = some q) : CrOK q := by
  unfold presL at h
  obtain ⟨p, hp, hq⟩ := List.exists_of_findSome?_eq_some h
  exact parseCr_ok (byteL_by _) (by rw [byteL_len]; exact hl p hp) (offL_some hq).2.1
def hitN (nn : ByteArray) (p : Nce) : Bool := p.v.toList == nn.toList
/-- The last of the first j nonces that is this one. -/
def findBk (l : List Nce) (nn : ByteArray) : Nat → Option Nat
  | 0 => none
  | j + 1 => match l[j]? with
    | some p => if hitN nn p = true then some j else findBk l nn j
    | none => findBk l nn j
def findB (l : List Nce) (nn : ByteArray) : Option Nat := findBk l nn l.length
theorem findBk_yes {l : List Nce} {nn : ByteArray} {j : Nat} {p : Nce} (hp : l[j]? = some p) (hq : hitN nn p = true) : findBk l nn (j + 1) = some j := by
  unfold findBk
  rw [hp]
  exact if_pos hq
theorem findBk_no {l : List Nce} {nn : ByteArray} {j : Nat} {p : Nce} (hp : l[j]? = some p) (hq : hitN nn p = false) : findBk l nn (j + 1) = findBk l nn j := by
  conv => lhs; unfold findBk
  rw [hp]
  exact if_neg (by rw [hq]; decide)
structure VR where
  re : ByteArray
  ke : ByteArray
  life : Int
  iss : Int
  l : List Nce
  u : ByteArray
  q : Int
def respV (ms : ByteArray) (bs : List Int) (s : ByteArray) (c : Cr) : List Int := respL (byteL s) (byteL (strOfNums c.n)) (c.k % 4294967296) (byteL (strOfNums c.c)) c.g (byteL (strOfNums c.i)) (byteL ms) bs
def badV (re ke : ByteArray) (life iss code now : Int) (l : List Nce) : Bool := !validG (byteL re) (byteL ke) life iss l || (code != 0 || (decide (now < 0) || decide (1099511627776 < now)))
def wrongV (us : List (ByteArray × ByteArray)) (uri ms : ByteArray) (bs : List Int) (c : Cr) : Bool := !((strOfNums c.i).toList == uri.toList) || (match findK us (strOfNums c.u) with
  | none => true
  | some k => !((strOfNums (respV ms bs (us.getD k (⟨#[]⟩, ⟨#[]⟩)).2 c)).toList == (strOfNums c.p).toList))
def nonceV (life now : Int) (l : List Nce) (c : Cr) : Int × List Nce := match findB l (strOfNums c.n) with
  | none => (13, l)
  | some i => if life < now - (l.getD i ⟨⟨#[]⟩, 0, 0⟩).a then (13, l) else if c.k ≤ (l.getD i ⟨⟨#[]⟩, 0, 0⟩).k then (7, l) else (0, l.set i ⟨(l.getD i ⟨⟨#[]⟩, 0, 0⟩).v, (l.getD i ⟨⟨#[]⟩, 0, 0⟩).a, c.k⟩)
theorem badV_ok {re ke : ByteArray} {life iss code now : Int} {l : List Nce} (h : badV re ke life iss code now l = false) : ∀ p ∈ l, 0 ≤ p.a ∧ p.a ≤ 1099511627776 := fun p hp => by
  unfold badV at h
  have h1 : validG (byteL re) (byteL ke) life iss l = true := by
    cases hv : validG (byteL re) (byteL ke) life iss l
    · rw [hv] at h; cases h
    · rfl
  unfold validG at h1
  simp only [Bool.and_eq_true, List.all_eq_true] at h1
  have h2 := h1.2.2.2.2.2.2.2 p hp
  unfold ncOk at h2
  simp only [Bool.and_eq_true, decide_eq_true_eq] at h2
  exact ⟨h2.1, h2.2.1⟩
/-- What Verify answers. -/
def verL (re ke : ByteArray) (life iss code now : Int) (l : List Nce) (us hs : List (ByteArray × ByteArray)) (ms uri : ByteArray) (bs : List Int) : VR :=
  if badV re ke life iss code now l = true then ⟨⟨#[]⟩, ⟨#[]⟩, 0, 0, [], ⟨#[]⟩, 2⟩ else
  match presL hs (byteL re) with
  | none => ⟨re, ke, life, iss, l, ⟨#[]⟩, 8⟩
  | some c => if wrongV us uri ms bs c = true then ⟨re, ke, life, iss, l, ⟨#[]⟩, 12⟩ else
    ⟨re, ke, life, iss, (nonceV life now l c).2, if (nonceV life now l c).1 = 0 then strOfNums c.u else ⟨#[]⟩, (nonceV life now l c).1⟩
section
variable {re ke ms uri : ByteArray} {life iss code now : Int} {l : List Nce} {us hs : List (ByteArray × ByteArray)} {bs : List Int} {c : Cr}
theorem verL_bad (h : badV re ke life iss code now l = true) : verL re ke life iss code now l us hs ms uri bs = ⟨⟨#[]⟩, ⟨#[]⟩, 0, 0, [], ⟨#[]⟩, 2⟩ := if_pos h
theorem verL_none (h : badV re ke life iss code now l = false) (h2 : presL hs (byteL re) = none) : verL re ke life iss code now l us hs ms uri bs = ⟨re, ke, life, iss, l, ⟨#[]⟩, 8⟩ := by
  unfold verL
  rw [if_neg (by rw [h]; decide), h2]
theorem verL_wrong (h : badV re ke life iss code now l = false) (h2 : presL hs (byteL re) = some c) (h3 : wrongV us uri ms bs c = true) : verL re ke life iss code now l us hs ms uri bs = ⟨re, ke, life, iss, l, ⟨#[]⟩, 12⟩ := by
  unfold verL
  rw [if_neg (by rw [h]; decide), h2]
  exact if_pos h3
theorem verL_nonce {k : Int} {l2 : List Nce} (h : badV re ke life iss code now l = false) (h2 : presL hs (byteL re) = some c) (h3 : wrongV us uri ms bs c = false) (h4 : nonceV life now l c = (k, l2)) (hk : k ≠ 0) : verL re ke life iss code now l us hs ms uri bs = ⟨re, ke, life, iss, l2, ⟨#[]⟩, k⟩ := by
  unfold verL
  rw [if_neg (by rw [h]; decide), h2]
  dsimp only
  rw [if_neg (by rw [h3]; decide), h4]
  dsimp only
  rw [if_neg hk]
theorem verL_yes {l2 : List Nce} (h : badV re ke life iss code now l = false) (h2 : presL hs (byteL re) = some c) (h3 : wrongV us uri ms bs c = false) (h4 : nonceV life now l c = (0, l2)) : verL re ke life iss code now l us hs ms uri bs = ⟨re, ke, life, iss, l2, strOfNums c.u, 0⟩ := by
  unfold verL
  rw [if_neg (by rw [h]; decide), h2]
  dsimp only
  rw [if_neg (by rw [h3]; decide), h4]
  rfl
theorem wrong_uri (h : ((strOfNums c.i).toList == uri.toList) = false) : wrongV us uri ms bs c = true := by unfold wrongV; rw [h]; rfl
theorem wrong_user (h : findK us (strOfNums c.u) = none) : wrongV us uri ms bs c = true := by unfold wrongV; rw [h]; simp
theorem wrong_resp {k : Nat} (h0 : ((strOfNums c.i).toList == uri.toList) = true) (h : findK us (strOfNums c.u) = some k) : wrongV us uri ms bs c = !((strOfNums (respV ms bs (us.getD k (⟨#[]⟩, ⟨#[]⟩)).2 c)).toList == (strOfNums c.p).toList) := by unfold wrongV; rw [h0, h]; rfl
theorem nonce_none (h : findB l (strOfNums c.n) = none) : nonceV life now l c = (13, l) := by unfold nonceV; rw [h]
theorem nonce_old {i : Nat} {p : Nce} (h : findB l (strOfNums c.n) = some i) (hp : l[i]? = some p) (h2 : life < now - p.a) : nonceV life now l c = (13, l) := by
  unfold nonceV
  rw [h]
  dsimp only
  rw [List.getD_eq_getElem?_getD, hp]
  exact if_pos h2
theorem nonce_used {i : Nat} {p : Nce} (h : findB l (strOfNums c.n) = some i) (hp : l[i]? = some p) (h2 : ¬ life < now - p.a) (h3 : c.k ≤ p.k) : nonceV life now l c = (7, l) := by
  unfold nonceV
  rw [h]
  dsimp only
  rw [List.getD_eq_getElem?_getD, hp]
  dsimp only [Option.getD_some]
  rw [if_neg h2, if_pos h3]
theorem nonce_new {i : Nat} {p : Nce} (h : findB l (strOfNums c.n) = some i) (hp : l[i]? = some p) (h2 : ¬ life < now - p.a) (h3 : ¬ c.k ≤ p.k) : nonceV life now l c = (0, l.set i ⟨p.v, p.a, c.k⟩) := by
  unfold nonceV
  rw [h]
  dsimp only
  rw [List.getD_eq_getElem?_getD, hp]
  dsimp only [Option.getD_some]
  rw [if_neg h2, if_neg h3]
end
/-- What both hand back. -/
def VerP (V : VR) (w : World) (e : Ending) (w' : World) : Prop := Below w.heap.size w w' ∧ ∃ A c, e = .returned (.tuple #[.agg #[.string V.re, .string V.ke, .int .i64 V.life, .int .i64 V.iss, .slice A V.l.length c], .string V.u, .int .u8 V.q]) ∧ Rds w' w'.heap.size A (ncs V.l)
theorem VerP.zero {V : VR} {w w' : World} (h : V = ⟨⟨#[]⟩, ⟨#[]⟩, 0, 0, [], ⟨#[]⟩, 2⟩) (hb : Below w.heap.size w w') : VerP V w (.returned (.tuple #[.agg #[.string ⟨#[]⟩, .string ⟨#[]⟩, .int .i64 0, .int .i64 0, .slice none 0 0], .string ⟨#[]⟩, .int .u8 2])) w' := ⟨hb, none, 0, by rw [h]; rfl, by rw [h]; exact fun h => absurd h (by simp [ncs])⟩
theorem VerP.of {V : VR} {w w' : World} {re ke u : ByteArray} {life iss q : Int} {l : List Nce} {A : Option Addr} {n c : Nat} (h : V = ⟨re, ke, life, iss, l, u, q⟩) (hb : Below w.heap.size w w') (hn : l.length = n) (hA : Rds w' w'.heap.size A (ncs l)) :
    VerP V w (.returned (.tuple #[.agg #[.string re, .string ke, .int .i64 life, .int .i64 iss, .slice A n c], .string u, .int .u8 q])) w' := ⟨hb, A, c, by rw [h, ← hn], by rw [h]; exact hA⟩
theorem results_ctu {fn : Func} {t u v : Tmp} {ty : TypeId} (h : fn.results = #[.cell t ty, .tmp u, .tmp v]) (tmps : Array Value) (P : Program) (w : World) (b : Nat) (cs : List Value) (d : TypeDesc)
    (ht : tmps.getD t undef = .pointer (some ⟨b, 0, none⟩)) (hc : w.rangeAt b 0 cs) (hu : P.underlying ty = some d) (hd : d.isRow = true) (hi : (P.info? ty).map (·.size) = some cs.length) :
    (results fn tmps).run P w = .ok (.tuple #[.agg cs.toArray, tmps.getD u undef, tmps.getD v undef]) w := by
  have hl := run_loadVar_mid (P := P) w b 0 ty cs d hc hu hd hi
  simp only [results, h]
  simp [-Array.getD_eq_getD_getElem?, ht, asAddr, hl]
theorem ncs_stored {w : World} {gb j : Nat} {l : List Nce} {p : Nce} {k : Int} (hp : l[j]? = some p) (h : ∀ i u, (ncs l)[i]? = some u → w.cell? ⟨gb, i, none⟩ = some u) :
    ∀ i u, (ncs (l.set j ⟨p.v, p.a, k⟩))[i]? = some u → (w.setCell ⟨gb, j * 3 + 2, none⟩ (.int .i64 k)).cell? ⟨gb, i, none⟩ = some u := fun i u hu => by
  have hj : j < l.length := (List.getElem?_eq_some_iff.1 hp).1
  have hi := (List.getElem?_eq_some_iff.1 hu).1
  rw [ncs_len, List.length_set] at hi
  obtain ⟨r, hr⟩ : ∃ r, l[i / 3]? = some r := ⟨_, List.getElem?_eq_getElem (by omega)⟩
  by_cases hij : i / 3 = j
  · have hs : (l.set j ⟨p.v, p.a, k⟩)[i / 3]? = some ⟨p.v, p.a, k⟩ := by rw [hij, List.getElem?_set_self hj]
    rcases (show i % 3 = 0 ∨ i % 3 = 1 ∨ i % 3 = 2 by omega) with h3 | h3 | h3
    · have h4 := ncs_at hs 0 _ rfl
      rw [show i / 3 * 3 + 0 = i by omega, hu] at h4
      cases h4
      rw [World.cell?_setCell_other _ _ _ _ (by intro e; injection e with _ e1; omega)]
      have h5 := h _ _ (ncs_at hp 0 _ rfl)
      rwa [show j * 3 + 0 = i by omega] at h5
    · have h4 := ncs_at hs 1 _ rfl
      rw [show i / 3 * 3 + 1 = i by omega, hu] at h4
      cases h4
      rw [World.cell?_setCell_other _ _ _ _ (by intro e; injection e with _ e1; omega)]
      have h5 := h _ _ (ncs_at hp 1 _ rfl)
      rwa [show j * 3 + 1 = i by omega] at h5
    · have h4 := ncs_at hs 2 _ rfl
      rw [show i / 3 * 3 + 2 = i by omega, hu] at h4
      cases h4
      rw [show i = j * 3 + 2 by omega]
      exact World.cell?_setCell_same' _ _ _ (by rw [h _ _ (ncs_at hp 2 _ rfl)]; rfl)
  · have hs : (l.set j ⟨p.v, p.a, k⟩)[i / 3]? = some r := by rw [List.getElem?_set_ne (Ne.symm hij)]; exact hr
    rw [World.cell?_setCell_other _ _ _ _ (by intro e; injection e with _ e1; omega)]
    have hk : ∀ (c : Nat) (v : Value), [Value.string r.v, .int .i64 r.a, .int .i64 r.k][c]? = some v → i / 3 * 3 + c = i → w.cell? ⟨gb, i, none⟩ = some u := fun c v hc he => by
      have h4 := ncs_at hs c v hc
      have h5 := h _ _ (ncs_at hr c v hc)
      rw [he] at h4 h5
      rw [hu] at h4
      cases h4
      exact h5
    rcases (show i % 3 = 0 ∨ i % 3 = 1 ∨ i % 3 = 2 by omega) with h3 | h3 | h3
    · exact hk 0 _ rfl (by omega)
    · exact hk 1 _ rfl (by omega)
    · exact hk 2 _ rfl (by omega)
theorem sizeG3 : (Tryz.prog.info? 49).map (·.size) = some 5 := by kernel_rfl
theorem sizeG (a b c d e : Value) : (Tryz.prog.info? 49).map (·.size) = some [a, b, c, d, e].length := sizeG3
theorem lenG (a b c d e a' b' c' d' e' : Value) : [a, b, c, d, e].length = [a', b', c', d', e'].length := rfl
theorem g_one (a b : ByteArray) (k m : Int) (A : Option Addr) (n c : Nat) : ∀ u ∈ [Value.string a, .string b, .int .i64 k, .int .i64 m, .slice A n c], u.oneCell' = true := fun u hu => by
  simp at hu
  rcases hu with rfl | rfl | rfl | rfl | rfl <;> rfl
end Go.Proofs.YtfhbpgickkibmaaGreatDoor
