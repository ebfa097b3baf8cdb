/- Plain law: a printed challenge and printed credentials read back as they were. -/
import Derived.Test.YtfhbpgickkibmaaDoorPm
namespace Go.Proofs.YtfhbpgickkibmaaDoor
open Go.RowKit

def Safe (p : List Int) : Prop := ∀ c ∈ p, c ≠ 34 ∧ c ≠ 60 ∧ c ≠ 62 ∧ c ≠ 44
/-- What the division and the reading ask of a piece. -/
def Good (x : List Int × (List Int × List Int)) : Prop := fldL x.1 = some x.2 ∧ Closed x.1 ∧ Tight x.1
theorem good_nq {nm v : List Int} (hn : Name nm) (hs : Safe nm) (hv : clean v = true) : Good (nq nm v, (nm, v)) := by
  refine ⟨fldL_nq hn hv, ?_, ?_⟩
  · exact ((Closed.safe hs).append (Closed.one (c := 61) (by decide) (by decide) (by decide) (by decide))).append (Closed.quote hv)
  · obtain ⟨h0, h1, _⟩ := hn
    obtain ⟨d, r, rfl⟩ : ∃ d r, nm = d :: r := by
      cases nm with
      | nil => exact absurd rfl h0
      | cons d r => exact ⟨d, r, rfl⟩
    exact ⟨⟨d, r ++ [61] ++ quoteL v, by unfold nq; simp, tok_blank (h1 d (by simp))⟩, 34, (d :: r) ++ [61] ++ (34 :: escL v), by unfold nq quoteL; simp, by decide⟩
theorem good_tok {nm tk q : List Int} {d : Int} (hn : Name nm) (hs : Safe nm) (ht : tk = q ++ [d]) (hk : ∀ c ∈ tk, isTok c = true) (hs2 : Safe tk) : Good (nm ++ 61 :: tk, (nm, tk)) := by
  refine ⟨fldL_tok hn (by rw [ht]; simp) hk, ?_, ?_⟩
  · have h := ((Closed.safe hs).append (Closed.one (c := 61) (by decide) (by decide) (by decide) (by decide))).append (Closed.safe hs2)
    rwa [List.append_assoc, List.singleton_append] at h
  · obtain ⟨h0, h1, _⟩ := hn
    obtain ⟨e, r, rfl⟩ : ∃ e r, nm = e :: r := by
      cases nm with
      | nil => exact absurd rfl h0
      | cons d r => exact ⟨d, r, rfl⟩
    exact ⟨⟨e, r ++ 61 :: tk, by simp, tok_blank (h1 e (by simp))⟩, d, (e :: r) ++ 61 :: q, by rw [ht]; simp, tok_blank (hk d (by rw [ht]; simp))⟩
def SHAU : List Int := [83, 72, 65, 45, 50, 53, 54]
theorem nm_realm : Name REALM ∧ Safe REALM := ⟨⟨by decide, by decide, by decide⟩, by unfold Safe; decide⟩
theorem nm_nonce : Name NONCE ∧ Safe NONCE := ⟨⟨by decide, by decide, by decide⟩, by unfold Safe; decide⟩
theorem nm_opaque : Name OPAQUE ∧ Safe OPAQUE := ⟨⟨by decide, by decide, by decide⟩, by unfold Safe; decide⟩
theorem nm_qop : Name QOP ∧ Safe QOP := ⟨⟨by decide, by decide, by decide⟩, by unfold Safe; decide⟩
theorem nm_alg : Name ALG ∧ Safe ALG := ⟨⟨by decide, by decide, by decide⟩, by unfold Safe; decide⟩
theorem nm_stale : Name STALE ∧ Safe STALE := ⟨⟨by decide, by decide, by decide⟩, by unfold Safe; decide⟩
theorem nm_user : Name USER ∧ Safe USER := ⟨⟨by decide, by decide, by decide⟩, by unfold Safe; decide⟩
theorem nm_uri : Name URI ∧ Safe URI := ⟨⟨by decide, by decide, by decide⟩, by unfold Safe; decide⟩
theorem nm_resp : Name RESP ∧ Safe RESP := ⟨⟨by decide, by decide, by decide⟩, by unfold Safe; decide⟩
theorem nm_cnonce : Name CNONCE ∧ Safe CNONCE := ⟨⟨by decide, by decide, by decide⟩, by unfold Safe; decide⟩
theorem nm_nc : Name NC ∧ Safe NC := ⟨⟨by decide, by decide, by decide⟩, by unfold Safe; decide⟩
theorem g_alg : Good (ALGP, (ALG, SHAU)) := good_tok (q := [83, 72, 65, 45, 50, 53]) (d := 54) nm_alg.1 nm_alg.2 rfl (by decide) (by unfold Safe; decide)
theorem g_stale : Good (STALEP, (STALE, TRUE)) := good_tok (q := [116, 114, 117]) (d := 101) nm_stale.1 nm_stale.2 rfl (by decide) (by unfold Safe; decide)
theorem g_qopc (i : Bool) : Good (nq QOP (if i = true then BOTH else AUTH), (QOP, if i = true then BOTH else AUTH)) := good_nq nm_qop.1 nm_qop.2 (clean_auth i)
theorem back_ch (c : Ch) (h : clean c.r = true ∧ clean c.n = true ∧ clean c.o = true) : parseCh (DIG ++ joinL [44, 32] (partsCh c)) = .ok c := by
  obtain ⟨r, n, o, i, s⟩ := c
  obtain ⟨hr, hn, ho⟩ := h
  have gr : Good (nq REALM r, (REALM, r)) := good_nq nm_realm.1 nm_realm.2 hr
  have gn : Good (nq NONCE n, (NONCE, n)) := good_nq nm_nonce.1 nm_nonce.2 hn
  have go : Good (nq OPAQUE o, (OPAQUE, o)) := good_nq nm_opaque.1 nm_opaque.2 ho
  by_cases h0 : o = []
  · subst h0
    cases s with
    | true =>
      have hF := fieldsL_back [(nq REALM r, (REALM, r)), (nq NONCE n, (NONCE, n)), (ALGP, (ALG, SHAU)), (nq QOP (if i = true then BOTH else AUTH), (QOP, if i = true then BOTH else AUTH)), (STALEP, (STALE, TRUE))] (by simp) (by
        simp only [List.forall_mem_cons]
        exact ⟨gr, gn, g_alg, g_qopc i, g_stale, fun x hx => by cases hx⟩) (by simp only [List.map_cons, List.map_nil]; decide)
      have hp : partsCh ⟨r, n, [], i, true⟩ = [(nq REALM r, (REALM, r)), (nq NONCE n, (NONCE, n)), (ALGP, (ALG, SHAU)), (nq QOP (if i = true then BOTH else AUTH), (QOP, if i = true then BOTH else AUTH)), (STALEP, (STALE, TRUE))].map (·.1) := rfl
      unfold parseCh
      rw [hp, hF]
      cases i <;> rfl
    | false =>
      have hF := fieldsL_back [(nq REALM r, (REALM, r)), (nq NONCE n, (NONCE, n)), (ALGP, (ALG, SHAU)), (nq QOP (if i = true then BOTH else AUTH), (QOP, if i = true then BOTH else AUTH))] (by simp) (by
        simp only [List.forall_mem_cons]
        exact ⟨gr, gn, g_alg, g_qopc i, fun x hx => by cases hx⟩) (by simp only [List.map_cons, List.map_nil]; decide)
      have hp : partsCh ⟨r, n, [], i, false⟩ = [(nq REALM r, (REALM, r)), (nq NONCE n, (NONCE, n)), (ALGP, (ALG, SHAU)), (nq QOP (if i = true then BOTH else AUTH), (QOP, if i = true then BOTH else AUTH))].map (·.1) := rfl
      unfold parseCh
      rw [hp, hF]
      cases i <;> rfl
  · cases s with
    | true =>
      have hF := fieldsL_back [(nq REALM r, (REALM, r)), (nq NONCE n, (NONCE, n)), (nq OPAQUE o, (OPAQUE, o)), (ALGP, (ALG, SHAU)), (nq QOP (if i = true then BOTH else AUTH), (QOP, if i = true then BOTH else AUTH)), (STALEP, (STALE, TRUE))] (by simp) (by
        simp only [List.forall_mem_cons]
        exact ⟨gr, gn, go, g_alg, g_qopc i, g_stale, fun x hx => by cases hx⟩) (by simp only [List.map_cons, List.map_nil]; decide)
      have hp : partsCh ⟨r, n, o, i, true⟩ = [(nq REALM r, (REALM, r)), (nq NONCE n, (NONCE, n)), (nq OPAQUE o, (OPAQUE, o)), (ALGP, (ALG, SHAU)), (nq QOP (if i = true then BOTH else AUTH), (QOP, if i = true then BOTH else AUTH)), (STALEP, (STALE, TRUE))].map (·.1) := by unfold partsCh; rw [if_neg h0]; rfl
      unfold parseCh
      rw [hp, hF]
      cases i <;> rfl
    | false =>
      have hF := fieldsL_back [(nq REALM r, (REALM, r)), (nq NONCE n, (NONCE, n)), (nq OPAQUE o, (OPAQUE, o)), (ALGP, (ALG, SHAU)), (nq QOP (if i = true then BOTH else AUTH), (QOP, if i = true then BOTH else AUTH))] (by simp) (by
        simp only [List.forall_mem_cons]
        exact ⟨gr, gn, go, g_alg, g_qopc i, fun x hx => by cases hx⟩) (by simp only [List.map_cons, List.map_nil]; decide)
      have hp : partsCh ⟨r, n, o, i, false⟩ = [(nq REALM r, (REALM, r)), (nq NONCE n, (NONCE, n)), (nq OPAQUE o, (OPAQUE, o)), (ALGP, (ALG, SHAU)), (nq QOP (if i = true then BOTH else AUTH), (QOP, if i = true then BOTH else AUTH))].map (·.1) := by unfold partsCh; rw [if_neg h0]; rfl
      unfold parseCh
      rw [hp, hF]
      cases i <;> rfl
theorem hex_fin : ∀ k : Fin 16, isTok (hexC (k.val : Int)) = true ∧ digOk (hexC (k.val : Int)) = true ∧ digV (hexC (k.val : Int)) = (k.val : Int) ∧ (hexC (k.val : Int) ≠ 34 ∧ hexC (k.val : Int) ≠ 60 ∧ hexC (k.val : Int) ≠ 62 ∧ hexC (k.val : Int) ≠ 44) := by decide
theorem hex_one {n : Int} (h0 : 0 ≤ n) (h1 : n < 16) : isTok (hexC n) = true ∧ digOk (hexC n) = true ∧ digV (hexC n) = n ∧ (hexC n ≠ 34 ∧ hexC n ≠ 60 ∧ hexC n ≠ 62 ∧ hexC n ≠ 44) := by
  obtain ⟨k, rfl⟩ := Int.eq_ofNat_of_zero_le h0
  exact hex_fin ⟨k, by omega⟩
theorem hex8_all {P : Int → Prop} (k : Int) (h : ∀ n, 0 ≤ n → n < 16 → P (hexC n)) : ∀ c ∈ hex8 k, P c := fun c hc => by
  unfold hex8 at hc
  simp only [List.mem_cons, List.not_mem_nil, or_false] at hc
  rcases hc with rfl | rfl | rfl | rfl | rfl | rfl | rfl | rfl <;> exact h _ (by omega) (by omega)
theorem g_nc (k : Int) : Good (NCE ++ hex8 k, (NC, hex8 k)) :=
  good_tok (q := (hex8 k).take 7) (d := hexC (k % 16)) nm_nc.1 nm_nc.2 rfl (hex8_all k fun n h0 h1 => (hex_one h0 h1).1) (hex8_all k fun n h0 h1 => (hex_one h0 h1).2.2.2)
theorem g_qopk (g : Bool) : Good (QOPE ++ (if g = true then AUTHI else AUTH), (QOP, if g = true then AUTHI else AUTH)) := by
  cases g
  · exact good_tok (q := [97, 117, 116]) (d := 104) nm_qop.1 nm_qop.2 rfl (by decide) (by unfold Safe; decide)
  · exact good_tok (q := [97, 117, 116, 104, 45, 105, 110]) (d := 116) nm_qop.1 nm_qop.2 rfl (by decide) (by unfold Safe; decide)
theorem hex8_num (k : Int) (h0 : 0 ≤ k) (h1 : k ≤ 4294967295) : goodU (hex8 k) = true ∧ numL (unL (hex8 k) 4) = k := by
  have hd := fun (n : Int) (a : 0 ≤ n) (b : n < 16) => (hex_one a b).2.2.1
  constructor
  · unfold goodU
    rw [show (hex8 k).length = 8 from rfl]
    rw [Bool.and_eq_true]
    refine ⟨by decide, ?_⟩
    rw [List.all_eq_true]
    exact hex8_all k fun n a b => (hex_one a b).2.1
  · show (((0 * 256 + (digV (hexC (k / 268435456 % 16)) * 16 + digV (hexC (k / 16777216 % 16)))) * 256 + (digV (hexC (k / 1048576 % 16)) * 16 + digV (hexC (k / 65536 % 16)))) * 256 + (digV (hexC (k / 4096 % 16)) * 16 + digV (hexC (k / 256 % 16)))) * 256 + (digV (hexC (k / 16 % 16)) * 16 + digV (hexC (k % 16))) = k
    rw [hd _ (by omega) (by omega), hd _ (by omega) (by omega), hd _ (by omega) (by omega), hd _ (by omega) (by omega), hd _ (by omega) (by omega), hd _ (by omega) (by omega), hd _ (by omega) (by omega), hd _ (by omega) (by omega)]
    omega
theorem back_cr (c : Cr) (h0 : 0 ≤ c.k) (h1 : c.k ≤ 4294967295) (h : cleanCr c = true) : parseCr (DIG ++ joinL [44, 32] (partsCr c)) = .ok c := by
  obtain ⟨u, r, n, i, p, c, o, k, g⟩ := c
  unfold cleanCr at h
  simp only [Bool.and_eq_true] at h
  obtain ⟨hu, hr, hn, hi, hp, hc, ho⟩ := h
  have hn8 := hex8_num k h0 h1
  have gu : Good (nq USER u, (USER, u)) := good_nq nm_user.1 nm_user.2 hu
  have gr : Good (nq REALM r, (REALM, r)) := good_nq nm_realm.1 nm_realm.2 hr
  have gn : Good (nq NONCE n, (NONCE, n)) := good_nq nm_nonce.1 nm_nonce.2 hn
  have gi : Good (nq URI i, (URI, i)) := good_nq nm_uri.1 nm_uri.2 hi
  have gp : Good (nq RESP p, (RESP, p)) := good_nq nm_resp.1 nm_resp.2 hp
  have gc : Good (nq CNONCE c, (CNONCE, c)) := good_nq nm_cnonce.1 nm_cnonce.2 hc
  have go : Good (nq OPAQUE o, (OPAQUE, o)) := good_nq nm_opaque.1 nm_opaque.2 ho
  by_cases hO : o = []
  · subst hO
    have hF := fieldsL_back [(nq USER u, (USER, u)), (nq REALM r, (REALM, r)), (nq NONCE n, (NONCE, n)), (nq URI i, (URI, i)), (nq RESP p, (RESP, p)), (ALGP, (ALG, SHAU)), (nq CNONCE c, (CNONCE, c)), (QOPE ++ (if g = true then AUTHI else AUTH), (QOP, if g = true then AUTHI else AUTH)), (NCE ++ hex8 k, (NC, hex8 k))] (by simp) (by
      simp only [List.forall_mem_cons]
      exact ⟨gu, gr, gn, gi, gp, g_alg, gc, g_qopk g, g_nc k, fun x hx => by cases hx⟩) (by simp only [List.map_cons, List.map_nil]; decide)
    have hp : partsCr ⟨u, r, n, i, p, c, [], k, g⟩ = [(nq USER u, (USER, u)), (nq REALM r, (REALM, r)), (nq NONCE n, (NONCE, n)), (nq URI i, (URI, i)), (nq RESP p, (RESP, p)), (ALGP, (ALG, SHAU)), (nq CNONCE c, (CNONCE, c)), (QOPE ++ (if g = true then AUTHI else AUTH), (QOP, if g = true then AUTHI else AUTH)), (NCE ++ hex8 k, (NC, hex8 k))].map (·.1) := rfl
    have hms : missing [(USER, u), (REALM, r), (NONCE, n), (URI, i), (RESP, p), (ALG, SHAU), (CNONCE, c), (QOP, if g = true then AUTHI else AUTH), (NC, hex8 k)] = false := rfl
    have hnc : gotF [(USER, u), (REALM, r), (NONCE, n), (URI, i), (RESP, p), (ALG, SHAU), (CNONCE, c), (QOP, if g = true then AUTHI else AUTH), (NC, hex8 k)] NC = hex8 k := rfl
    unfold parseCr
    rw [hp, hF]
    show (if missing [(USER, u), (REALM, r), (NONCE, n), (URI, i), (RESP, p), (ALG, SHAU), (CNONCE, c), (QOP, if g = true then AUTHI else AUTH), (NC, hex8 k)] = true then .error 8 else if lowS (gotF [(USER, u), (REALM, r), (NONCE, n), (URI, i), (RESP, p), (ALG, SHAU), (CNONCE, c), (QOP, if g = true then AUTHI else AUTH), (NC, hex8 k)] ALG) ≠ SHA then .error 15 else if gotF [(USER, u), (REALM, r), (NONCE, n), (URI, i), (RESP, p), (ALG, SHAU), (CNONCE, c), (QOP, if g = true then AUTHI else AUTH), (NC, hex8 k)] QOP ≠ AUTHI ∧ gotF [(USER, u), (REALM, r), (NONCE, n), (URI, i), (RESP, p), (ALG, SHAU), (CNONCE, c), (QOP, if g = true then AUTHI else AUTH), (NC, hex8 k)] QOP ≠ AUTH then .error 15
      else if goodU (gotF [(USER, u), (REALM, r), (NONCE, n), (URI, i), (RESP, p), (ALG, SHAU), (CNONCE, c), (QOP, if g = true then AUTHI else AUTH), (NC, hex8 k)] NC) = false ∨ (gotF [(USER, u), (REALM, r), (NONCE, n), (URI, i), (RESP, p), (ALG, SHAU), (CNONCE, c), (QOP, if g = true then AUTHI else AUTH), (NC, hex8 k)] NC).length / 2 ≠ 4 then .error 5
      else .ok ⟨gotF [(USER, u), (REALM, r), (NONCE, n), (URI, i), (RESP, p), (ALG, SHAU), (CNONCE, c), (QOP, if g = true then AUTHI else AUTH), (NC, hex8 k)] USER, gotF [(USER, u), (REALM, r), (NONCE, n), (URI, i), (RESP, p), (ALG, SHAU), (CNONCE, c), (QOP, if g = true then AUTHI else AUTH), (NC, hex8 k)] REALM, gotF [(USER, u), (REALM, r), (NONCE, n), (URI, i), (RESP, p), (ALG, SHAU), (CNONCE, c), (QOP, if g = true then AUTHI else AUTH), (NC, hex8 k)] NONCE, gotF [(USER, u), (REALM, r), (NONCE, n), (URI, i), (RESP, p), (ALG, SHAU), (CNONCE, c), (QOP, if g = true then AUTHI else AUTH), (NC, hex8 k)] URI, gotF [(USER, u), (REALM, r), (NONCE, n), (URI, i), (RESP, p), (ALG, SHAU), (CNONCE, c), (QOP, if g = true then AUTHI else AUTH), (NC, hex8 k)] RESP, gotF [(USER, u), (REALM, r), (NONCE, n), (URI, i), (RESP, p), (ALG, SHAU), (CNONCE, c), (QOP, if g = true then AUTHI else AUTH), (NC, hex8 k)] CNONCE, gotF [(USER, u), (REALM, r), (NONCE, n), (URI, i), (RESP, p), (ALG, SHAU), (CNONCE, c), (QOP, if g = true then AUTHI else AUTH), (NC, hex8 k)] OPAQUE, numL (unL (gotF [(USER, u), (REALM, r), (NONCE, n), (URI, i), (RESP, p), (ALG, SHAU), (CNONCE, c), (QOP, if g = true then AUTHI else AUTH), (NC, hex8 k)] NC) 4), gotF [(USER, u), (REALM, r), (NONCE, n), (URI, i), (RESP, p), (ALG, SHAU), (CNONCE, c), (QOP, if g = true then AUTHI else AUTH), (NC, hex8 k)] QOP == AUTHI⟩) = (.ok ⟨u, r, n, i, p, c, [], k, g⟩ : Except Int Cr)
    rw [if_neg (by rw [hms]; decide), if_neg (fun h => h rfl), if_neg (by cases g; exact fun h => h.2 rfl; exact fun h => h.1 rfl), hnc, if_neg (by
      rintro (h | h)
      · rw [hn8.1] at h; cases h
      · exact h (by rw [show (hex8 k).length = 8 from rfl])), hn8.2]
    cases g <;> rfl
  · skip
    have hF := fieldsL_back [(nq USER u, (USER, u)), (nq REALM r, (REALM, r)), (nq NONCE n, (NONCE, n)), (nq URI i, (URI, i)), (nq RESP p, (RESP, p)), (ALGP, (ALG, SHAU)), (nq CNONCE c, (CNONCE, c)), (QOPE ++ (if g = true then AUTHI else AUTH), (QOP, if g = true then AUTHI else AUTH)), (NCE ++ hex8 k, (NC, hex8 k)), (nq OPAQUE o, (OPAQUE, o))] (by simp) (by
      simp only [List.forall_mem_cons]
      exact ⟨gu, gr, gn, gi, gp, g_alg, gc, g_qopk g, g_nc k, go, fun x hx => by cases hx⟩) (by simp only [List.map_cons, List.map_nil]; decide)
    have hp : partsCr ⟨u, r, n, i, p, c, o, k, g⟩ = [(nq USER u, (USER, u)), (nq REALM r, (REALM, r)), (nq NONCE n, (NONCE, n)), (nq URI i, (URI, i)), (nq RESP p, (RESP, p)), (ALGP, (ALG, SHAU)), (nq CNONCE c, (CNONCE, c)), (QOPE ++ (if g = true then AUTHI else AUTH), (QOP, if g = true then AUTHI else AUTH)), (NCE ++ hex8 k, (NC, hex8 k)), (nq OPAQUE o, (OPAQUE, o))].map (·.1) := by unfold partsCr; rw [if_neg hO]; rfl
    have hms : missing [(USER, u), (REALM, r), (NONCE, n), (URI, i), (RESP, p), (ALG, SHAU), (CNONCE, c), (QOP, if g = true then AUTHI else AUTH), (NC, hex8 k), (OPAQUE, o)] = false := rfl
    have hnc : gotF [(USER, u), (REALM, r), (NONCE, n), (URI, i), (RESP, p), (ALG, SHAU), (CNONCE, c), (QOP, if g = true then AUTHI else AUTH), (NC, hex8 k), (OPAQUE, o)] NC = hex8 k := rfl
    unfold parseCr
    rw [hp, hF]
    show (if missing [(USER, u), (REALM, r), (NONCE, n), (URI, i), (RESP, p), (ALG, SHAU), (CNONCE, c), (QOP, if g = true then AUTHI else AUTH), (NC, hex8 k), (OPAQUE, o)] = true then .error 8 else if lowS (gotF [(USER, u), (REALM, r), (NONCE, n), (URI, i), (RESP, p), (ALG, SHAU), (CNONCE, c), (QOP, if g = true then AUTHI else AUTH), (NC, hex8 k), (OPAQUE, o)] ALG) ≠ SHA then .error 15 else if gotF [(USER, u), (REALM, r), (NONCE, n), (URI, i), (RESP, p), (ALG, SHAU), (CNONCE, c), (QOP, if g = true then AUTHI else AUTH), (NC, hex8 k), (OPAQUE, o)] QOP ≠ AUTHI ∧ gotF [(USER, u), (REALM, r), (NONCE, n), (URI, i), (RESP, p), (ALG, SHAU), (CNONCE, c), (QOP, if g = true then AUTHI else AUTH), (NC, hex8 k), (OPAQUE, o)] QOP ≠ AUTH then .error 15
      else if goodU (gotF [(USER, u), (REALM, r), (NONCE, n), (URI, i), (RESP, p), (ALG, SHAU), (CNONCE, c), (QOP, if g = true then AUTHI else AUTH), (NC, hex8 k), (OPAQUE, o)] NC) = false ∨ (gotF [(USER, u), (REALM, r), (NONCE, n), (URI, i), (RESP, p), (ALG, SHAU), (CNONCE, c), (QOP, if g = true then AUTHI else AUTH), (NC, hex8 k), (OPAQUE, o)] NC).length / 2 ≠ 4 then .error 5
      else .ok ⟨gotF [(USER, u), (REALM, r), (NONCE, n), (URI, i), (RESP, p), (ALG, SHAU), (CNONCE, c), (QOP, if g = true then AUTHI else AUTH), (NC, hex8 k), (OPAQUE, o)] USER, gotF [(USER, u), (REALM, r), (NONCE, n), (URI, i), (RESP, p), (ALG, SHAU), (CNONCE, c), (QOP, if g = true then AUTHI else AUTH), (NC, hex8 k), (OPAQUE, o)] REALM, gotF [(USER, u), (REALM, r), (NONCE, n), (URI, i), (RESP, p), (ALG, SHAU), (CNONCE, c), (QOP, if g = true then AUTHI else AUTH), (NC, hex8 k), (OPAQUE, o)] NONCE, gotF [(USER, u), (REALM, r), (NONCE, n), (URI, i), (RESP, p), (ALG, SHAU), (CNONCE, c), (QOP, if g = true then AUTHI else AUTH), (NC, hex8 k), (OPAQUE, o)] URI, gotF [(USER, u), (REALM, r), (NONCE, n), (URI, i), (RESP, p), (ALG, SHAU), (CNONCE, c), (QOP, if g = true then AUTHI else AUTH), (NC, hex8 k), (OPAQUE, o)] RESP, gotF [(USER, u), (REALM, r), (NONCE, n), (URI, i), (RESP, p), (ALG, SHAU), (CNONCE, c), (QOP, if g = true then AUTHI else AUTH), (NC, hex8 k), (OPAQUE, o)] CNONCE, gotF [(USER, u), (REALM, r), (NONCE, n), (URI, i), (RESP, p), (ALG, SHAU), (CNONCE, c), (QOP, if g = true then AUTHI else AUTH), (NC, hex8 k), (OPAQUE, o)] OPAQUE, numL (unL (gotF [(USER, u), (REALM, r), (NONCE, n), (URI, i), (RESP, p), (ALG, SHAU), (CNONCE, c), (QOP, if g = true then AUTHI else AUTH), (NC, hex8 k), (OPAQUE, o)] NC) 4), gotF [(USER, u), (REALM, r), (NONCE, n), (URI, i), (RESP, p), (ALG, SHAU), (CNONCE, c), (QOP, if g = true then AUTHI else AUTH), (NC, hex8 k), (OPAQUE, o)] QOP == AUTHI⟩) = (.ok ⟨u, r, n, i, p, c, o, k, g⟩ : Except Int Cr)
    rw [if_neg (by rw [hms]; decide), if_neg (fun h => h rfl), if_neg (by cases g; exact fun h => h.2 rfl; exact fun h => h.1 rfl), hnc, if_neg (by
      rintro (h | h)
      · rw [hn8.1] at h; cases h
      · exact h (by rw [show (hex8 k).length = 8 from rfl])), hn8.2]
    cases g <;> rfl
theorem joinL_by {sep : List Int} (hs : By sep) : ∀ l : List (List Int), (∀ p ∈ l, By p) → By (joinL sep l)
  | [], _ => fun x hx => by cases hx
  | [a], h => by rw [joinL_one]; exact h a (by simp)
  | a :: b :: r, h => by
    have ih := joinL_by hs (b :: r) (fun p hp => h p (List.mem_cons_of_mem _ hp))
    rw [joinL_cons]
    intro x hx
    rcases List.mem_append.1 hx with h1 | h1
    · exact h a (by simp) x h1
    · rcases List.mem_append.1 h1 with h2 | h2
      · exact hs x h2
      · exact ih x h2
theorem joinL_len2 (sep : List Int) : ∀ l : List (List Int), (joinL sep l).length ≤ (l.map fun p => p.length + sep.length).sum
  | [] => by rw [joinL_nil]; simp
  | [a] => by rw [joinL_one]; simp
  | a :: b :: r => by
    have ih := joinL_len2 sep (b :: r)
    rw [joinL_cons, List.length_append, List.length_append, List.map_cons, List.sum_cons]
    omega
theorem nq_by {nm v : List Int} (hn : By nm) (hv : By v) : By (nq nm v) := fun x hx => by
  unfold nq at hx
  rcases List.mem_append.1 hx with h1 | h1
  · rcases List.mem_append.1 h1 with h2 | h2
    · exact hn x h2
    · rw [List.mem_singleton] at h2; subst h2; decide
  · exact quoteL_by hv x h1
end Go.Proofs.YtfhbpgickkibmaaDoor
