/- auth's Verify. -/
import Derived.Test.YtfhbpgickkibmaaGreatDoorRg
import Derived.Test.YtfhbpgickkibmaaGreatDoorKf
namespace Go.Proofs.YtfhbpgickkibmaaGreatDoor
open Go.RowKit Go.Shelf

theorem Rds.heapR {w w' : World} {A : Option Addr} {cs : List Value} {x : Nat} (h : Rds w w.heap.size A cs) (hp : ∀ b o s, A = some ⟨b, o, s⟩ → b ≠ x) (hs : w'.heap.size = w.heap.size) (hh : ∀ b', b' ≠ x → w'.heap[b']? = w.heap[b']?) : Rds w' w'.heap.size A cs := fun hn => by
  obtain ⟨b, o, e, hb, hc⟩ := h hn
  refine ⟨b, o, e, by rw [hs]; exact hb, fun j u hu => ?_⟩
  rw [World.cell?_of_block (w := w) (a := ⟨b, o + j, none⟩) (hh b (hp b o none e))]
  exact hc j u hu
theorem findK_lt {us : List (ByteArray × ByteArray)} {u : ByteArray} {k : Nat} (h : findK us u = some k) : k < us.length := by
  unfold findK at h
  rw [List.findIdx?_eq_some_iff_getElem] at h
  exact h.1
theorem leavesM_ret {n : Nat} {fn : Func} {a : Act} {w : World} {v : Value} {R : Ending → World → Prop} (hr : (results fn a.tmps).run Tryz.prog w = .ok v w) (hd : a.defers = []) (hR : R (.returned v) w) : bodyPostM Fence.wide n Tryz.prog fn R .ret a w := by
  show LeavesInM Fence.wide n Tryz.prog fn a.tmps R a.defers .returning w
  rw [hd]
  exact ⟨v, hr, hR⟩
set_option maxRecDepth 100000 in
set_option maxHeartbeats 4000000 in
theorem verify_any (re ke ms uri rsn : ByteArray) (life iss code now : Int) (Ea U A B : Option Addr) (en ec un uc n c m d : Nat) (l : List Nce) (us hs : List (ByteArray × ByteArray)) (bs : List Int) (w : World)
    (hE : Rds w w.heap.size Ea (ncs l)) (hen : l.length = en) (henN : en ≤ 2000000) (hU : Rds w w.heap.size U (hds us)) (hun : us.length = un) (hunN : un ≤ 16000000) (hus : ∀ h ∈ us, h.2.size ≤ 4000000)
    (hA : Rds w w.heap.size A (hds hs)) (hn : hs.length = n) (hN : n ≤ 4000000) (hl : ∀ h ∈ hs, h.1.size ≤ 4000000 ∧ h.2.size ≤ 4000000) (hb : By bs) (hm : bs.length = m) (hM : m ≤ 16000000) (hB : Bs w w.heap.size B bs)
    (s1 : re.size ≤ 4000000) (s2 : ke.size ≤ 4000000) (s7 : ms.size ≤ 4000000) (s8 : uri.size ≤ 4000000) (hnil : Ea = none → en = 0 ∧ ec = 0) (hK : KC w) (hS : SC w) :
    Calls Tryz.prog 25 #[.agg #[.string re, .string ke, .int .i64 life, .int .i64 iss, .slice Ea en ec], .slice U un uc, .agg #[.string ms, .string uri, .int .i64 code, .string rsn, .slice A n c, .slice B m d], .int .i64 now] w (VerP (verL re ke life iss code now l us hs ms uri bs) w) := by
  have VB := Lib.hid (fun h => verL_bad (us := us) (hs := hs) (ms := ms) (uri := uri) (bs := bs) (re := re) (ke := ke) (life := life) (iss := iss) (code := code) (now := now) (l := l) h)
  have VN := Lib.hid (fun h h2 => verL_none (us := us) (hs := hs) (ms := ms) (uri := uri) (bs := bs) (re := re) (ke := ke) (life := life) (iss := iss) (code := code) (now := now) (l := l) h h2)
  have VW := Lib.hid (fun q h h2 h3 => verL_wrong (c := q) (us := us) (hs := hs) (ms := ms) (uri := uri) (bs := bs) (re := re) (ke := ke) (life := life) (iss := iss) (code := code) (now := now) (l := l) h h2 h3)
  have VK := Lib.hid (fun q k l2 h h2 h3 h4 hk => verL_nonce (c := q) (k := k) (l2 := l2) (us := us) (hs := hs) (ms := ms) (uri := uri) (bs := bs) (re := re) (ke := ke) (life := life) (iss := iss) (code := code) (now := now) (l := l) h h2 h3 h4 hk)
  have VY := Lib.hid (fun q l2 h h2 h3 h4 => verL_yes (c := q) (l2 := l2) (us := us) (hs := hs) (ms := ms) (uri := uri) (bs := bs) (re := re) (ke := ke) (life := life) (iss := iss) (code := code) (now := now) (l := l) h h2 h3 h4)
  have BV := Lib.hid (show badV re ke life iss code now l = (!validG (byteL re) (byteL ke) life iss l || (code != 0 || (decide (now < 0) || decide (1099511627776 < now)))) from rfl)
  have POK := Lib.hid (fun q h => presL_ok (hs := hs) (rs := byteL re) (q := q) (fun h hh => (hl h hh).2) h)
  generalize verL re ke life iss code now l us hs ms uri bs = V at *
  have HEN := Lib.hid hen
  have S1 : (w.alloc (.cells #[.string re, .string ke, .int .i64 life, .int .i64 iss, .slice Ea en ec] 49)).heap.size = w.heap.size + 1 := World.size_alloc _ _
  have S2 : ((w.alloc (.cells #[.string re, .string ke, .int .i64 life, .int .i64 iss, .slice Ea en ec] 49)).alloc (.cells #[.string ms, .string uri, .int .i64 code, .string rsn, .slice A n c, .slice B m d] 41)).heap.size = w.heap.size + 1 + 1 := by rw [World.size_alloc, S1]
  have R4 := Lib.hid (show Row (((w.alloc (.cells #[.string re, .string ke, .int .i64 life, .int .i64 iss, .slice Ea en ec] 49)).alloc (.cells #[.string ms, .string uri, .int .i64 code, .string rsn, .slice A n c, .slice B m d] 41)).alloc (.cells #[.string ⟨#[]⟩, .string ⟨#[]⟩, .int .i64 0, .int .i64 0, .slice none 0 0] 49)) w.heap.size 49 [.string re, .string ke, .int .i64 life, .int .i64 iss, .slice Ea en ec] from ((Row.new w 49 [.string re, .string ke, .int .i64 life, .int .i64 iss, .slice Ea en ec]).alloc _).alloc _)
  have R6 := Lib.hid (show Row (((w.alloc (.cells #[.string re, .string ke, .int .i64 life, .int .i64 iss, .slice Ea en ec] 49)).alloc (.cells #[.string ms, .string uri, .int .i64 code, .string rsn, .slice A n c, .slice B m d] 41)).alloc (.cells #[.string ⟨#[]⟩, .string ⟨#[]⟩, .int .i64 0, .int .i64 0, .slice none 0 0] 49)) (w.heap.size + 1) 41 [.string ms, .string uri, .int .i64 code, .string rsn, .slice A n c, .slice B m d] by
    have h := Row.new (w.alloc (.cells #[.string re, .string ke, .int .i64 life, .int .i64 iss, .slice Ea en ec] 49)) 41 [.string ms, .string uri, .int .i64 code, .string rsn, .slice A n c, .slice B m d]
    rw [S1] at h
    exact h.alloc _)
  have R8 := Lib.hid (show Row (((w.alloc (.cells #[.string re, .string ke, .int .i64 life, .int .i64 iss, .slice Ea en ec] 49)).alloc (.cells #[.string ms, .string uri, .int .i64 code, .string rsn, .slice A n c, .slice B m d] 41)).alloc (.cells #[.string ⟨#[]⟩, .string ⟨#[]⟩, .int .i64 0, .int .i64 0, .slice none 0 0] 49)) (w.heap.size + 1 + 1) 49 [.string ⟨#[]⟩, .string ⟨#[]⟩, .int .i64 0, .int .i64 0, .slice none 0 0] by
    have h := Row.new ((w.alloc (.cells #[.string re, .string ke, .int .i64 life, .int .i64 iss, .slice Ea en ec] 49)).alloc (.cells #[.string ms, .string uri, .int .i64 code, .string rsn, .slice A n c, .slice B m d] 41)) 49 [.string ⟨#[]⟩, .string ⟨#[]⟩, .int .i64 0, .int .i64 0, .slice none 0 0]
    rw [S2] at h
    exact h)
  have BQ := Lib.hid (show Below w.heap.size w (((w.alloc (.cells #[.string re, .string ke, .int .i64 life, .int .i64 iss, .slice Ea en ec] 49)).alloc (.cells #[.string ms, .string uri, .int .i64 code, .string rsn, .slice A n c, .slice B m d] 41)).alloc (.cells #[.string ⟨#[]⟩, .string ⟨#[]⟩, .int .i64 0, .int .i64 0, .slice none 0 0] 49)) from (((Below.refl _ _).alloc (Nat.le_refl _) _).alloc (by rw [S1]; omega) _).alloc (by rw [S2]; omega) _)
  clear S1 S2
  have RV := Lib.hid (fun (X : World) (b : Below w.heap.size w X) => valid_any re ke life iss Ea en ec l X hen ((hE.below b).up b.size) (by omega) s1 s2)
  have HUS := Lib.hid hus
  have HBY := Lib.hid hb; have HM := Lib.hid hm
  have CL := Lib.hid (fun (X : World) (b : Below w.heap.size w X) => cloneN_any Ea en ec l X hen ((hE.below b).up b.size) hnil henN)
  have HA0 := Lib.hid hA; have HN := Lib.hid hn; have HL := Lib.hid hl; have HU := Lib.hid hU; have HUN := Lib.hid hun; have HK := Lib.hid hK; have HS := Lib.hid hS
  clear hU hun hus hA hn hl hb hm hen hnil hK hS
  generalize hVG : validG (byteL re) (byteL ke) life iss l = vg at *
  clear hVG
  have PR0 := Lib.hid (show presL hs (byteL re) = presL (hs.drop 0) (byteL re) from rfl)
  generalize hP : presL hs (byteL re) = P at *
  clear hP
  refine (callsIn_wide (n := 9)).1 ?_
  refine callsIn_of_wp_marks Tryz.func25 rfl trivial ?_
  simp only [Tryz.ntmps25, List.size_toArray, List.length_cons, List.length_nil, Nat.reduceAdd, Nat.reduceSub, Array.replicate_succ, Array.replicate_zero, List.push_toArray, List.append_toArray, List.nil_append, List.cons_append]
  refine wpIn_wide.2 ?_
  go_wp2_with (with_reducible refine wpList_loadR rfl 49 (.tmp 4) rfl R4.out rfl Tryz.underlying49 rfl (sizeG _ _ _ _ _) ?_)
  generalize (((w.alloc (.cells #[.string re, .string ke, .int .i64 life, .int .i64 iss, .slice Ea en ec] 49)).alloc (.cells #[.string ms, .string uri, .int .i64 code, .string rsn, .slice A n c, .slice B m d] 41)).alloc (.cells #[.string ⟨#[]⟩, .string ⟨#[]⟩, .int .i64 0, .int .i64 0, .slice none 0 0] 49)) = W at *
  refine (RV.out W BQ.out).mono ?_
  rintro e w1 ⟨rfl, hb1⟩
  have R4' := Lib.hid (R4.out.below hb1); have R6' := Lib.hid (R6.out.below hb1); have R8' := Lib.hid (R8.out.below hb1); have BQ' := Lib.hid (bthen BQ.out hb1)
  clear hb1 R4 R6 R8 BQ RV
  have R4 := R4'; have R6 := R6'; have R8 := R8'; have BQ := BQ'
  clear R4' R6' R8' BQ'
  have c2 : w1.cell? ⟨w.heap.size + 1, 2, none⟩ = some (.int .i64 code) := R6.out.cell 2
  cases vg with
  | false =>
    have E := Lib.hid (VB.out (by rw [BV.out]; rfl))
    go_wp2_with (with_reducible refine wpList_storeR rfl 49 (.tmp 8) (.tmp 35) rfl R8.out [.string ⟨#[]⟩, .string ⟨#[]⟩, .int .i64 0, .int .i64 0, .slice none 0 0] rfl rfl (lenG _ _ _ _ _ _ _ _ _ _) (sizeG _ _ _ _ _) (g_one _ _ _ _ _ _ _) BQ.out (by omega) ?_)
    intro w9 R9 B9 _
    go_wp2_with fail
    exact leavesM_ret (results_ctu rfl _ _ _ (w.heap.size + 1 + 1) [.string ⟨#[]⟩, .string ⟨#[]⟩, .int .i64 0, .int .i64 0, .slice none 0 0] _ rfl R9.out.range Tryz.underlying49 rfl sizeG3) rfl (by exact VerP.zero E.out B9.out)
  | true =>
  by_cases k0 : code = 0
  · have d0 : (code != 0) = false := by simp [k0]
    clear k0
    by_cases k1 : now < 0
    · have d1 : decide (now < 0) = true := by simp [k1]
      have E := Lib.hid (VB.out (by rw [BV.out, d0, d1]; rfl))
      clear k1
      go_wp2_with (with_reducible refine wpList_storeR rfl 49 (.tmp 8) (.tmp 35) rfl R8.out [.string ⟨#[]⟩, .string ⟨#[]⟩, .int .i64 0, .int .i64 0, .slice none 0 0] rfl rfl (lenG _ _ _ _ _ _ _ _ _ _) (sizeG _ _ _ _ _) (g_one _ _ _ _ _ _ _) BQ.out (by omega) ?_)
      intro w9 R9 B9 _
      go_wp2_with fail
      exact leavesM_ret (results_ctu rfl _ _ _ (w.heap.size + 1 + 1) [.string ⟨#[]⟩, .string ⟨#[]⟩, .int .i64 0, .int .i64 0, .slice none 0 0] _ rfl R9.out.range Tryz.underlying49 rfl sizeG3) rfl (by exact VerP.zero E.out B9.out)
    have d1 : decide (now < 0) = false := by simp; omega
    by_cases k2 : 1099511627776 < now
    · have d2 : decide (1099511627776 < now) = true := by simp [k2]
      have E := Lib.hid (VB.out (by rw [BV.out, d0, d1, d2]; rfl))
      clear k1 k2
      go_wp2_with (with_reducible refine wpList_storeR rfl 49 (.tmp 8) (.tmp 35) rfl R8.out [.string ⟨#[]⟩, .string ⟨#[]⟩, .int .i64 0, .int .i64 0, .slice none 0 0] rfl rfl (lenG _ _ _ _ _ _ _ _ _ _) (sizeG _ _ _ _ _) (g_one _ _ _ _ _ _ _) BQ.out (by omega) ?_)
      intro w9 R9 B9 _
      go_wp2_with fail
      exact leavesM_ret (results_ctu rfl _ _ _ (w.heap.size + 1 + 1) [.string ⟨#[]⟩, .string ⟨#[]⟩, .int .i64 0, .int .i64 0, .slice none 0 0] _ rfl R9.out.range Tryz.underlying49 rfl sizeG3) rfl (by exact VerP.zero E.out B9.out)
    have d2 : decide (1099511627776 < now) = false := by simp; omega
    have NB := Lib.hid (show badV re ke life iss code now l = false by rw [BV.out, d0, d1, d2]; rfl)
    clear BV VB
    have e0 : w1.cell? ⟨w.heap.size, 4, none⟩ = some (.slice Ea en ec) := R4.out.cell 4
    have f0 := R4.out.frozen 4
    go_wp2_with fail
    clear c2 d0 d1 d2 e0 f0
    refine (CL.out w1 BQ.out).mono ?_
    rintro e w2 ⟨v, rfl, HV⟩
    have R4' := Lib.hid (R4.out.below HV.bw); have R6' := Lib.hid (R6.out.below HV.bw); have R8' := Lib.hid (R8.out.below HV.bw); have BQ' := Lib.hid (bthen BQ.out HV.bw)
    have NEWB := Lib.hid (own_block HV.o)
    have LT1 := Lib.hid R8.out.lt
    obtain ⟨A2, c2, rfl, hc2, hA2⟩ := HV.rds
    have e0 : w2.cell? ⟨w.heap.size, 4, none⟩ = some (.slice Ea en ec) := R4'.out.cell 4
    have f0 := R4'.out.frozen 4
    have VB2 := Lib.hid (HV.base BQ.out)
    have HAv := Lib.hid hA2
    clear R4 R6 R8 BQ hA2 HV CL
    have NEW2 := Lib.hid (show ∀ b o s, A2 = some ⟨b, o, s⟩ → w.heap.size + 1 + 1 < b from fun b o s e => by
      subst e
      exact Nat.lt_of_lt_of_le LT1.out (NEWB.out b rfl))
    have ws : ∃ ws, ws = w2.setCell ⟨w.heap.size, 4, none⟩ (.slice A2 en c2) := ⟨_, rfl⟩
    obtain ⟨ws, hws⟩ := ws
    have R4 := Lib.hid (show Row ws w.heap.size 49 [.string re, .string ke, .int .i64 life, .int .i64 iss, .slice A2 en c2] by rw [hws]; exact R4'.out.set 4 _)
    have R6 := Lib.hid (show Row ws (w.heap.size + 1) 41 [.string ms, .string uri, .int .i64 code, .string rsn, .slice A n c, .slice B m d] by rw [hws]; exact R6'.out.setOther (by omega) _)
    have R8 := Lib.hid (show Row ws (w.heap.size + 1 + 1) 49 [.string ⟨#[]⟩, .string ⟨#[]⟩, .int .i64 0, .int .i64 0, .slice none 0 0] by rw [hws]; exact R8'.out.setOther (by omega) _)
    have BQ := Lib.hid (show Below w.heap.size w ws by rw [hws]; exact BQ'.out.setCell (Nat.le_refl _) _)
    have VXs := Lib.hid (show VX 76 3 w (.slice A2 en c2) en (ncs l) ws from VB2.out.other BQ.out (fun g hg => by
      rw [hws]
      exact Below.heap_setCell w2 _ _ g (by
        have h1 := NEWB.out g hg; have h2 := LT1.out
        show g ≠ w.heap.size
        omega)))
    have HAs := Lib.hid (show Rds ws ws.heap.size A2 (ncs l) from fun hn => by
      obtain ⟨b, o, e, hb, hc⟩ := HAv.out hn
      refine ⟨b, o, e, by rw [hws]; simpa [World.setCell] using hb, fun j u hu => ?_⟩
      rw [hws, World.cell?_setCell_other _ _ _ _ (by intro e2; injection e2 with e3; have := NEW2.out b o none e; omega)]
      exact hc j u hu)
    have NEW3 := Lib.hid (show 0 < en → ∃ b o, A2 = some ⟨b, o, none⟩ ∧ b < ws.heap.size from fun h => by
      obtain ⟨b, o, e, hb, _⟩ := HAs.out (by rw [ncs_len, HEN.out]; omega)
      exact ⟨b, o, e, hb⟩)
    clear R4' R6' R8' BQ' VB2 HAv
    go_upto_region 4 with fail
    rw [← hws]
    clear hws e0 f0 LT1 NEWB
    have LT := Lib.hid R8.out.lt
    have A4 := Lib.hid ((Below.refl ws.heap.size ws).alloc (Nat.le_refl _) (.cells Z9.toArray 23))
    have RZ := Lib.hid (Row.new ws 23 Z9)
    have c6 : (ws.alloc (.cells Z9.toArray 23)).cell? ⟨w.heap.size + 1, 4, none⟩ = some (.slice A n c) := (R6.out.below A4.out).cell 4
    have OFF := Lib.hid (fun (p : ByteArray × ByteArray) (hp : p ∈ hs) (X : World) (b : Below w.heap.size w X) => offered_any p.1 p.2 re X (HL.out p hp).1 (HL.out p hp).2 (HS.out.below b))
    go_wp2_with fail
    clear c6
    go_loopw [12, 43] (fun v12 v43 wr => ∃ k : Nat, k ≤ n ∧ v12 = .bool false ∧ v43 = .int .i64 k ∧ Hid (P = presL (hs.drop k) (byteL re)) ∧ Hid (Below ws.heap.size ws wr) ∧ Hid (Row wr ws.heap.size 23 Z9)) (fun _ v _ => n - (intOf v).toNat)
    case atStart => exact ⟨0, Nat.zero_le _, rfl, rfl, PR0, A4, RZ⟩
    case round =>
      obtain ⟨k, hk, rfl, rfl, HP, BR, RR⟩ := hrel
      have R4r := Lib.hid (R4.out.below BR.out); have R6r := Lib.hid (R6.out.below BR.out); have R8r := Lib.hid (R8.out.below BR.out); have BQr := Lib.hid (bthen BQ.out BR.out)
      by_cases hlt : k < n
      · have hd : decide (k < n) = true := by simp [hlt]
        have hd2 : decide ((k : Int) < (n : Int)) = true := by simp; omega
        obtain ⟨p, hp⟩ : ∃ p, hs[k]? = some p := ⟨_, List.getElem?_eq_getElem (by rw [HN.out]; exact hlt)⟩
        obtain ⟨x1, o1, rfl, hx1, hc1⟩ := HA0.out (by rw [hds_len, HN.out]; omega)
        have G1 := Lib.hid (show wr.rangeAt x1 (o1 + k * 2) [.string p.1, .string p.2] from fun j v hv => (BQr.out.cell (p := ⟨x1, _, none⟩) hx1).trans (Rds.range (B := 0) hc1 (k * 2) _ (hds_at hp) j v hv))
        have KD := Lib.hid (show presL (hs.drop k) (byteL re) = (match offL (byteL p.1) (byteL p.2) (byteL re) with | some q => some q | none => presL (hs.drop (k + 1)) (byteL re)) by
          obtain ⟨h3, h4⟩ := List.getElem?_eq_some_iff.1 hp
          rw [List.drop_eq_getElem_cons h3, h4]
          unfold presL
          rw [List.findSome?_cons]
          cases offL (byteL p.1) (byteL p.2) (byteL re) <;> rfl)
        have OF := Lib.hid (OFF.out p (List.mem_of_getElem? hp))
        rw [← HP.out] at KD
        obtain ⟨nm, vl⟩ := p
        dsimp only at G1 KD OF
        generalize offL (byteL nm) (byteL vl) (byteL re) = O at *
        clear hc1 hp HP
        have N0 := Lib.hid (Row.new wr 69 [.string ⟨#[]⟩, .string ⟨#[]⟩])
        have BA := Lib.hid ((Below.refl wr.heap.size wr).alloc (Nat.le_refl _) (.cells #[.string ⟨#[]⟩, .string ⟨#[]⟩] 69))
        go_wp2_with (first
          | (with_reducible refine wpList_load_mid rfl 69 (.tmp 45) rfl x1 (o1 + k * 2) rfl [.string nm, .string vl] _ G1.out Tryz.underlying69 rfl (sizeH _ _) ?_)
          | (with_reducible refine wpList_storeR rfl 69 (.tmp 14) (.tmp 46) rfl N0.out [.string nm, .string vl] rfl rfl (lenH _ _ _ _) (sizeH _ _) (h2_one _ _) BA.out (Nat.le_refl _) ?_))
        intro wa RA BA2 _
        have e0 : wa.cell? ⟨w.heap.size, 0, none⟩ = some (.string re) := (R4r.out.below BA2.out).cell 0
        go_wp2_with (with_reducible refine wpList_loadR rfl 69 (.tmp 14) rfl RA.out rfl Tryz.underlying69 rfl (sizeH _ _) ?_)
        clear e0
        refine (OF.out wa (bthen BQr.out BA2.out)).mono ?_
        rintro e wb ⟨rfl, hb⟩
        have BB := Lib.hid (bthen BR.out (bthen BA2.out hb))
        have RC := Lib.hid ((RR.out.below BA2.out).below hb)
        clear hb RA BA2 N0 BA G1 R4r R6r R8r BQr RR BR
        cases O with
        | none =>
          have HP2 := Lib.hid (show P = presL (hs.drop (k + 1)) (byteL re) from KD.out)
          rw [show offV none = .tuple #[.agg Z9.toArray, .bool false] from rfl]
          go_wp2_with (with_reducible refine wpList_storeR rfl 23 (.tmp 11) (.tmp 52) rfl RC.out Z9 rfl rfl (lenL9 _ _ _ _ _ _ _ _ _ _ _ _ _ _ _ _ _ _) (sizeL9 _ _ _ _ _ _ _ _ _) (p9_one _ _ _ _ _ _ _ _ _) BB.out (Nat.le_refl _) ?_)
          intro wc RC2 BC _
          go_wp2_with fail
          go_roundw
          case rel => exact ⟨k + 1, by omega, rfl, by go_num, HP2, BC, RC2⟩
          case measure => simp [intOf]; omega
        | some q =>
          have HP2 := Lib.hid (show P = some q from KD.out)
          have QOK := Lib.hid (POK.out q HP2.out)
          rw [show offV (some q) = .tuple #[.agg #[.string (strOfNums q.u), .string (strOfNums q.r), .string (strOfNums q.n), .string (strOfNums q.i), .string (strOfNums q.p), .string (strOfNums q.c), .string (strOfNums q.o), .int .i64 q.k, .bool q.g], .bool true] from rfl]
          go_wp2_with (with_reducible refine wpList_storeR rfl 23 (.tmp 11) (.tmp 52) rfl RC.out [.string (strOfNums q.u), .string (strOfNums q.r), .string (strOfNums q.n), .string (strOfNums q.i), .string (strOfNums q.p), .string (strOfNums q.c), .string (strOfNums q.o), .int .i64 q.k, .bool q.g] rfl rfl (lenL9 _ _ _ _ _ _ _ _ _ _ _ _ _ _ _ _ _ _) (sizeL9 _ _ _ _ _ _ _ _ _) (p9_one _ _ _ _ _ _ _ _ _) BB.out (Nat.le_refl _) ?_)
          intro wc RC2 BC _
          have R4' := Lib.hid (R4.out.below BC.out); have R6' := Lib.hid (R6.out.below BC.out); have R8' := Lib.hid (R8.out.below BC.out); have BQ' := Lib.hid (bthen BQ.out BC.out)
          have HAe' := Lib.hid ((HAs.out.below BC.out).up BC.out.size)
          have VXe' := Lib.hid (VXs.out.step BC.out)
          have LTc := Lib.hid R8.out.lt
          clear R4 R6 R8 BQ HAs VXs RC BB OFF OF KD PR0 RZ A4 LT BC POK VN hd hd2 hlt
          have ub : wc.cell? ⟨ws.heap.size, 0, none⟩ = some (.string (strOfNums q.u)) := RC2.out.cell 0
          have IX := Lib.hid (indexw_any U un uc ws.heap.size us (strOfNums q.u) wc ((HU.out.below BQ'.out).up BQ'.out.size) HUN.out hunN ub)
          clear ub
          generalize hKK : findK us (strOfNums q.u) = K at *
          have HKK := Lib.hid hKK
          clear hKK
          go_wp2_with fail
          refine IX.out.mono ?_
          rintro e wd ⟨rfl, hbd⟩
          have R4 := Lib.hid (R4'.out.below hbd); have R6 := Lib.hid (R6'.out.below hbd); have R8 := Lib.hid (R8'.out.below hbd); have RC := Lib.hid (RC2.out.below hbd); have BQ := Lib.hid (bthen BQ'.out hbd)
          have HAe := Lib.hid ((HAe'.out.below hbd).up hbd.size)
          have VXe := Lib.hid (VXe'.out.step hbd)
          clear hbd R4' R6' R8' RC2 BQ' HAe' VXe' IX
          have q0 := fun x : BW wd => RC.out.later x 3
          have q1 := fun x : BW wd => R6.out.later x 1
          have q2 := fun x : BW wd => R6.out.later x 0
          have q3 := fun x : BW wd => R6.out.later x 5
          have q4 := fun x : BW wd => RC.out.later x 4
          simp only [List.getElem?_cons_succ, List.getElem?_cons_zero] at q0 q1 q2 q3 q4
          cases hq1 : ((strOfNums q.i).toList == uri.toList) with
          | false =>
            have E := Lib.hid (VW.out q NB.out HP2.out (wrong_uri hq1))
            obtain ⟨ix, hix⟩ : ∃ ix, idxV K = .int .i64 ix := by
              cases K
              · exact ⟨_, rfl⟩
              · exact ⟨_, rfl⟩
            rw [hix]
            clear hix
            go_wp2_with fail
            refine region_bw (by kernel_rfl) (by kernel_rfl) ?_
            iterate 25 go_big_quiet_step (fail)
            refine wpQuiet_nil ?_
            rintro _ ⟨x, rfl⟩
            obtain ⟨wx, hx⟩ : ∃ wx, wx = x.w := ⟨_, rfl⟩
            have BX := Lib.hid (show Below wd.heap.size wd wx by rw [hx]; exact x.h)
            rw [← hx]
            clear hx x
            have R4' := Lib.hid (R4.out.below BX.out); have R6' := Lib.hid (R6.out.below BX.out); have R8' := Lib.hid (R8.out.below BX.out); have RC' := Lib.hid (RC.out.below BX.out); have BQ' := Lib.hid (bthen BQ.out BX.out); have HAe' := Lib.hid ((HAe.out.below BX.out).up BX.out.size); have VXe' := Lib.hid (VXe.out.step BX.out)
            clear R4 R6 R8 RC BQ HAe VXe
            have R4 := R4'; have R6 := R6'; have R8 := R8'; have RC := RC'; have BQ := BQ'; have HAe := HAe'; have VXe := VXe'
            clear R4' R6' R8' RC' BQ' HAe' VXe'
            clear q0 q1 q2 q3 q4 hq1
            go_wp2_with (first
              | (with_reducible refine wpList_loadR rfl 49 (.tmp 4) rfl R4.out rfl Tryz.underlying49 rfl (sizeG _ _ _ _ _) ?_)
              | (with_reducible refine wpList_storeR rfl 49 (.tmp 8) (.tmp 87) rfl R8.out [.string re, .string ke, .int .i64 life, .int .i64 iss, .slice A2 en c2] rfl rfl (lenG _ _ _ _ _ _ _ _ _ _) (sizeG _ _ _ _ _) (g_one _ _ _ _ _ _ _) BQ.out (by omega) ?_))
            intro w9 R9 B9 H9
            go_wp2_with fail
            exact leavesM_ret (results_ctu rfl _ _ _ (w.heap.size + 1 + 1) [.string re, .string ke, .int .i64 life, .int .i64 iss, .slice A2 en c2] _ rfl R9.out.range Tryz.underlying49 rfl (sizeG _ _ _ _ _)) rfl (by exact VerP.of E.out B9.out HEN.out (HAe.out.heapR (fun b o s e => by have := NEW2.out b o s e; omega) H9.out.1 H9.out.2))
          | true =>
            cases K with
            | none =>
              have E := Lib.hid (VW.out q NB.out HP2.out (wrong_user HKK.out))
              rw [show idxV none = .int .i64 (-1) from rfl]
              go_wp2_with fail
              refine region_bw (by kernel_rfl) (by kernel_rfl) ?_
              iterate 25 go_big_quiet_step (fail)
              refine wpQuiet_nil ?_
              rintro _ ⟨x, rfl⟩
              obtain ⟨wx, hx⟩ : ∃ wx, wx = x.w := ⟨_, rfl⟩
              have BX := Lib.hid (show Below wd.heap.size wd wx by rw [hx]; exact x.h)
              rw [← hx]
              clear hx x
              have R4' := Lib.hid (R4.out.below BX.out); have R6' := Lib.hid (R6.out.below BX.out); have R8' := Lib.hid (R8.out.below BX.out); have RC' := Lib.hid (RC.out.below BX.out); have BQ' := Lib.hid (bthen BQ.out BX.out); have HAe' := Lib.hid ((HAe.out.below BX.out).up BX.out.size); have VXe' := Lib.hid (VXe.out.step BX.out)
              clear R4 R6 R8 RC BQ HAe VXe
              have R4 := R4'; have R6 := R6'; have R8 := R8'; have RC := RC'; have BQ := BQ'; have HAe := HAe'; have VXe := VXe'
              clear R4' R6' R8' RC' BQ' HAe' VXe'
              clear q0 q1 q2 q3 q4 hq1
              go_wp2_with (first
                | (with_reducible refine wpList_loadR rfl 49 (.tmp 4) rfl R4.out rfl Tryz.underlying49 rfl (sizeG _ _ _ _ _) ?_)
                | (with_reducible refine wpList_storeR rfl 49 (.tmp 8) (.tmp 87) rfl R8.out [.string re, .string ke, .int .i64 life, .int .i64 iss, .slice A2 en c2] rfl rfl (lenG _ _ _ _ _ _ _ _ _ _) (sizeG _ _ _ _ _) (g_one _ _ _ _ _ _ _) BQ.out (by omega) ?_))
              intro w9 R9 B9 H9
              go_wp2_with fail
              exact leavesM_ret (results_ctu rfl _ _ _ (w.heap.size + 1 + 1) [.string re, .string ke, .int .i64 life, .int .i64 iss, .slice A2 en c2] _ rfl R9.out.range Tryz.underlying49 rfl (sizeG _ _ _ _ _)) rfl (by exact VerP.of E.out B9.out HEN.out (HAe.out.heapR (fun b o s e => by have := NEW2.out b o s e; omega) H9.out.1 H9.out.2))
            | some k2 =>
              have hk2 := findK_lt HKK.out
              obtain ⟨p2, hp2⟩ : ∃ p2, us[k2]? = some p2 := ⟨_, List.getElem?_eq_getElem hk2⟩
              rw [HUN.out] at hk2
              obtain ⟨x2, o2, rfl, hx2, hcu⟩ := HU.out (by rw [hds_len, HUN.out]; omega)
              have q5 := fun x : BW wd => show x.w.cell? ⟨x2, o2 + k2 * 2 + 1, none⟩ = some (.string p2.2) from ((bthen BQ.out x.h).cell (p := ⟨x2, _, none⟩) hx2).trans (Rds.range (B := 0) hcu (k2 * 2) _ (hds_at hp2) 1 _ rfl)
              have HSs := Lib.hid (HUS.out p2 (List.mem_of_getElem? hp2))
              have WR := Lib.hid (wrong_resp (ms := ms) (bs := bs) hq1 HKK.out)
              rw [show (us.getD k2 (⟨#[]⟩, ⟨#[]⟩)).2 = p2.2 by rw [List.getD_eq_getElem?_getD, hp2]; rfl] at WR
              clear hp2 hcu
              generalize p2.2 = ss at *
              have i0 : (0 : Int) ≤ (k2 : Int) := by omega
              have i1 : (k2 : Int) < (un : Int) := by omega
              have j0 : decide ((k2 : Int) < 0) = false := by simp [show ¬ ((k2 : Int) < 0) by omega]
              have RR := Lib.hid (fun (X : World) (b : Below w.heap.size w X) => response_any ss ms (strOfNums q.u) (strOfNums q.r) (strOfNums q.n) (strOfNums q.i) (strOfNums q.p) (strOfNums q.c) (strOfNums q.o) q.k (q.k % 4294967296) q.g B m d bs X HBY.out HM.out ((hB.below b).up b.size) rfl (by rw [num_size, num_size]; have := HSs.out; have := QOK.out.n.2; have := QOK.out.c.2; omega) (by rw [num_size]; have := QOK.out.i.2; omega) hM (HK.out.below b))
              rw [show respL (byteL ss) (byteL (strOfNums q.n)) (q.k % 4294967296) (byteL (strOfNums q.c)) q.g (byteL (strOfNums q.i)) (byteL ms) bs = respV ms bs ss q from rfl] at RR
              generalize respV ms bs ss q = rp at *
              have RQ := Lib.hid (fun (x : BW wd) => RR.out x.w (bthen BQ.out x.h))
              rw [show idxV (some k2) = .int .i64 (k2 : Int) from rfl]
              go_wp2_with fail
              cases hq2 : ((strOfNums rp).toList == (strOfNums q.p).toList) with
              | false =>
                have E := Lib.hid (VW.out q NB.out HP2.out (by rw [WR.out, hq2]; rfl))
                refine region_bw (by kernel_rfl) (by kernel_rfl) ?_
                iterate 15 go_big_quiet_step (fail)
                go_big_quiet_want
                refine quiet_load 23 (.tmp 11) rfl ws.heap.size rfl _ 23 _ RC.out Tryz.underlying23 rfl (sizeL9 _ _ _ _ _ _ _ _ _) ?_
                simp only [Act.put, List.setIfInBounds_toArray, List.set_cons_zero, List.set_cons_succ]
                go_big_quiet_on
                iterate 4 go_big_quiet_step (fail)
                go_big_quiet_step (exact calls_bw (RQ.out _))
                iterate 4 go_big_quiet_step (fail)
                refine wpQuiet_nil ?_
                rintro _ ⟨x, rfl⟩
                obtain ⟨wx, hx⟩ : ∃ wx, wx = x.w := ⟨_, rfl⟩
                have BX := Lib.hid (show Below wd.heap.size wd wx by rw [hx]; exact x.h)
                rw [← hx]
                clear hx x
                have R4' := Lib.hid (R4.out.below BX.out); have R6' := Lib.hid (R6.out.below BX.out); have R8' := Lib.hid (R8.out.below BX.out); have RC' := Lib.hid (RC.out.below BX.out); have BQ' := Lib.hid (bthen BQ.out BX.out); have HAe' := Lib.hid ((HAe.out.below BX.out).up BX.out.size); have VXe' := Lib.hid (VXe.out.step BX.out)
                clear R4 R6 R8 RC BQ HAe VXe
                have R4 := R4'; have R6 := R6'; have R8 := R8'; have RC := RC'; have BQ := BQ'; have HAe := HAe'; have VXe := VXe'
                clear R4' R6' R8' RC' BQ' HAe' VXe'
                clear q0 q1 q2 q3 q4 q5 hq1 hq2
                go_wp2_with (first
                  | (with_reducible refine wpList_loadR rfl 49 (.tmp 4) rfl R4.out rfl Tryz.underlying49 rfl (sizeG _ _ _ _ _) ?_)
                  | (with_reducible refine wpList_storeR rfl 49 (.tmp 8) (.tmp 87) rfl R8.out [.string re, .string ke, .int .i64 life, .int .i64 iss, .slice A2 en c2] rfl rfl (lenG _ _ _ _ _ _ _ _ _ _) (sizeG _ _ _ _ _) (g_one _ _ _ _ _ _ _) BQ.out (by omega) ?_))
                intro w9 R9 B9 H9
                go_wp2_with fail
                exact leavesM_ret (results_ctu rfl _ _ _ (w.heap.size + 1 + 1) [.string re, .string ke, .int .i64 life, .int .i64 iss, .slice A2 en c2] _ rfl R9.out.range Tryz.underlying49 rfl (sizeG _ _ _ _ _)) rfl (by exact VerP.of E.out B9.out HEN.out (HAe.out.heapR (fun b o s e => by have := NEW2.out b o s e; omega) H9.out.1 H9.out.2))
              | true =>
                have WF := Lib.hid (show wrongV us uri ms bs q = false by rw [WR.out, hq2]; rfl)
                have FX := Lib.hid (fun (k : Int) l2 h4 hk => VK.out q k l2 NB.out HP2.out WF.out h4 hk)
                have FY := Lib.hid (fun l2 h4 => VY.out q l2 NB.out HP2.out WF.out h4)
                refine region_bw (by kernel_rfl) (by kernel_rfl) ?_
                iterate 15 go_big_quiet_step (fail)
                go_big_quiet_want
                refine quiet_load 23 (.tmp 11) rfl ws.heap.size rfl _ 23 _ RC.out Tryz.underlying23 rfl (sizeL9 _ _ _ _ _ _ _ _ _) ?_
                simp only [Act.put, List.setIfInBounds_toArray, List.set_cons_zero, List.set_cons_succ]
                go_big_quiet_on
                iterate 4 go_big_quiet_step (fail)
                go_big_quiet_step (exact calls_bw (RQ.out _))
                iterate 4 go_big_quiet_step (fail)
                refine wpQuiet_nil ?_
                rintro _ ⟨x, rfl⟩
                obtain ⟨wx, hx⟩ : ∃ wx, wx = x.w := ⟨_, rfl⟩
                have BX := Lib.hid (show Below wd.heap.size wd wx by rw [hx]; exact x.h)
                rw [← hx]
                clear hx x
                have R4' := Lib.hid (R4.out.below BX.out); have R6' := Lib.hid (R6.out.below BX.out); have R8' := Lib.hid (R8.out.below BX.out); have RC' := Lib.hid (RC.out.below BX.out); have BQ' := Lib.hid (bthen BQ.out BX.out); have HAe' := Lib.hid ((HAe.out.below BX.out).up BX.out.size); have VXe' := Lib.hid (VXe.out.step BX.out)
                clear R4 R6 R8 RC BQ HAe VXe
                have R4 := R4'; have R6 := R6'; have R8 := R8'; have RC := RC'; have BQ := BQ'; have HAe := HAe'; have VXe := VXe'
                clear R4' R6' R8' RC' BQ' HAe' VXe'
                clear q0 q1 q2 q3 q4 q5 hq1 hq2 RR RQ WR VW VK VY HKK i0 i1 j0 BX
                have BOK := Lib.hid (badV_ok NB.out)
                have e4 : wx.cell? ⟨w.heap.size, 4, none⟩ = some (.slice A2 en c2) := R4.out.cell 4
                have e4b : (wx.alloc (.cells #[.int .i64 (-1)] 3)).cell? ⟨w.heap.size, 4, none⟩ = some (.slice A2 en c2) := (R4.out.alloc _).cell 4
                go_wp2_with fail
                refine (backward_in A2 en c2 _).mono ?_
                rintro e w' ⟨rfl, rfl⟩
                go_wp2_with fail
                have cnn : wx.cell? ⟨ws.heap.size, 2, none⟩ = some (.string (strOfNums q.n)) := RC.out.cell 2
                clear e4 e4b
                refine range25 _ _ _ _ _ _ _ _ _ _ _ _ _ _ _ _ _ _ _ _ _ _ _ _ _ _ _ _ _ _ _ _ _ _ _ _ _ _ _ _ _ _ _ _ _ _ _ _ _ _ _ _ _ _ _ _ _ _ _ _ _ _ _ _ _ _ _ _ _ _ _ _ _ _ _ _ _ _ _ _ _ _ _ _ _ _ _ _ _ _ _ _ _ _ _ _ _ _ _ _ _ _ _ _ _ _ _ _ _ _ _ _ _ _ _ _ _ _ _ _ _ _ _ _ _ _ _ _ _ _ _ _ ws.heap.size A2 en c2 l (strOfNums q.n) wx _ HEN.out henN HAe.out RC.out.lt cnn (fun D X hD hB hR hX => (fun h => ⟨h, h⟩) ?_)
                have BX := Lib.hid hB; have R16 := Lib.hid hR; have HX := Lib.hid hX
                have NE := Lib.hid (show D ≠ w.heap.size + 1 + 1 by have := R8.out.lt; omega)
                have WD := Lib.hid (show w.heap.size ≤ D by have := BQ.out.size; omega)
                have HD := Lib.hid hD
                clear hB hR hX cnn hD
                obtain ⟨fb, hfb⟩ : ∃ fb, findB l (strOfNums q.n) = fb := ⟨_, rfl⟩
                rw [hfb] at R16
                have F := Lib.hid hfb
                clear hfb
                cases fb with
                | none =>
                  have E := Lib.hid (FX.out 13 l (nonce_none F.out) (by decide))
                  rw [show idxV none = .int .i64 (-1) from rfl] at R16
                  have R4' := Lib.hid (R4.out.below BX.out); have R6' := Lib.hid (R6.out.below BX.out); have R8' := Lib.hid (R8.out.below BX.out); have RC' := Lib.hid (RC.out.below BX.out); have BQ' := Lib.hid (bthen BQ.out BX.out); have HAe' := Lib.hid ((HAe.out.below BX.out).up BX.out.size)
                  clear R4 R6 R8 RC BQ HAe VXe BX
                  have R4 := R4'; have R6 := R6'; have R8 := R8'; have RC := RC'; have BQ := BQ'; have HAe := HAe'
                  clear R4' R6' R8' RC' BQ' HAe'
                  have q0 := fun x : BW X => R16.out.later x 0
                  simp only [List.getElem?_cons_zero] at q0
                  go_wp2_with fail
                  refine region_bw (by kernel_rfl) (by kernel_rfl) ?_
                  iterate 15 go_big_quiet_step (fail)
                  refine wpQuiet_nil ?_
                  rintro _ ⟨x, rfl⟩
                  obtain ⟨wy, hx⟩ : ∃ wy, wy = x.w := ⟨_, rfl⟩
                  have BX := Lib.hid (show Below X.heap.size X wy by rw [hx]; exact x.h)
                  rw [← hx]
                  clear hx x
                  have R4' := Lib.hid (R4.out.below BX.out); have R6' := Lib.hid (R6.out.below BX.out); have R8' := Lib.hid (R8.out.below BX.out); have RC' := Lib.hid (RC.out.below BX.out); have R16' := Lib.hid (R16.out.below BX.out); have BQ' := Lib.hid (bthen BQ.out BX.out); have HX' := Lib.hid (heapD HX.out BX.out); have HAe' := Lib.hid ((HAe.out.below BX.out).up BX.out.size)
                  clear R4 R6 R8 RC R16 BQ HX HAe
                  have R4 := R4'; have R6 := R6'; have R8 := R8'; have RC := RC'; have R16 := R16'; have BQ := BQ'; have HX := HX'; have HAe := HAe'
                  clear R4' R6' R8' RC' R16' BQ' HX' HAe'
                  clear q0 BX
                  go_wp2_with (first
                    | (with_reducible refine wpList_loadR rfl 49 (.tmp 4) rfl R4.out rfl Tryz.underlying49 rfl (sizeG _ _ _ _ _) ?_)
                    | (with_reducible refine wpList_storeR rfl 49 (.tmp 8) (.tmp 114) rfl R8.out [.string re, .string ke, .int .i64 life, .int .i64 iss, .slice A2 en c2] rfl rfl (lenG _ _ _ _ _ _ _ _ _ _) (sizeG _ _ _ _ _) (g_one _ _ _ _ _ _ _) BQ.out (by omega) ?_))
                  intro w9 R9 B9 H9
                  have HX9 := Lib.hid ((H9.out.2 _ NE.out).trans HX.out)
                  go_wp2_with fail
                  exact leavesM_ret1 rfl HX9.out (results_ctu rfl _ _ _ (w.heap.size + 1 + 1) [.string re, .string ke, .int .i64 life, .int .i64 iss, .slice A2 en c2] _ rfl (R9.out.put HX9.out).range Tryz.underlying49 rfl (sizeG _ _ _ _ _)) (by exact VerP.of E.out (belowK_t B9.out (belowK_b (Nat.le_refl _) w9 _ _ _ WD.out HX9.out rfl rfl)) HEN.out ((HAe.out.heapR (fun b o s e => by have := NEW2.out b o s e; omega) H9.out.1 H9.out.2).put HX9.out))
                | some i =>
                  rw [show idxV (some i) = .int .i64 (i : Int) from rfl] at R16
                  have hi := findBk_lt _ F.out
                  rw [HEN.out] at hi
                  obtain ⟨gb, rfl, _, hgx, _, _⟩ := VXe.out.room (by omega)
                  have VXX := Lib.hid (VXe.out.step BX.out)
                  obtain ⟨g9, e9, _, _, hfz, hcg⟩ := VXX.out.room (by omega)
                  obtain rfl : gb = g9 := by injection e9 with e9; injection e9 with e9
                  have GS := Lib.hid (show gb < ws.heap.size by
                    obtain ⟨b, o, e, hb⟩ := NEW3.out (by omega)
                    injection e with e; injection e with e
                    omega)
                  have GW := Lib.hid (show w.heap.size + 1 + 1 < gb from NEW2.out gb 0 none rfl)
                  have GX := Lib.hid hgx
                  obtain ⟨p, hp⟩ : ∃ p, l[i]? = some p := ⟨_, List.getElem?_eq_getElem (by rw [HEN.out]; exact hi)⟩
                  have HPj := Lib.hid hp
                  have NC := Lib.hid (fun (Y : World) (b : Below X.heap.size X Y) (k : Nat) (u : Value) (h : [.string p.v, .int .i64 p.a, .int .i64 p.k][k]? = some u) => show Y.cell? ⟨gb, i * 3 + k, none⟩ = some u from (b.cell (p := ⟨gb, _, none⟩) (by have := BX.out.size; show gb < _; omega)).trans (hcg _ _ (ncs_at hp k u h)))
                  have FRZ := Lib.hid (fun (Y : World) (b : Below X.heap.size X Y) => show Y.frozen? ⟨gb, i * 3 + 2, none⟩ = false from (b.frozen (p := ⟨gb, _, none⟩) (by have := BX.out.size; show gb < _; omega)).trans (hfz _))
                  have HCG := Lib.hid hcg
                  obtain ⟨pa0, pa1⟩ := BOK.out p (List.mem_of_getElem? hp)
                  have R4' := Lib.hid (R4.out.below BX.out); have R6' := Lib.hid (R6.out.below BX.out); have R8' := Lib.hid (R8.out.below BX.out); have RC' := Lib.hid (RC.out.below BX.out); have BQ' := Lib.hid (bthen BQ.out BX.out); have HAe' := Lib.hid ((HAe.out.below BX.out).up BX.out.size)
                  clear R4 R6 R8 RC BQ HAe VXe VXX BX e9 hfz hcg hp hgx
                  have R4 := R4'; have R6 := R6'; have R8 := R8'; have RC := RC'; have BQ := BQ'; have HAe := HAe'
                  clear R4' R6' R8' RC' BQ' HAe'
                  have i0 : (0 : Int) ≤ (i : Int) := by omega
                  have i1 : (i : Int) < (en : Int) := by omega
                  have j0 : decide ((i : Int) < 0) = false := by simp [show ¬ ((i : Int) < 0) by omega]
                  have j1 : decide ((0 : Int) ≤ (i : Int)) = true := by simp
                  have hw : IntKind.i64.wrap (now - p.a) = now - p.a := IntWalk.i64_in _ (by omega)
                  have q0 := fun x : BW X => R16.out.later x 0
                  have q1 := fun x : BW X => R4.out.later x 4
                  have q2 := fun x : BW X => R4.out.later x 2
                  have q3 := fun x : BW X => NC.out x.w x.h 1 _ rfl
                  simp only [List.getElem?_cons_succ, List.getElem?_cons_zero] at q0 q1 q2 q3
                  have B0X := Lib.hid (Below.refl X.heap.size X)
                  go_wp2_with fail
                  by_cases hq3 : life < now - p.a
                  · have E := Lib.hid (FX.out 13 l (nonce_old F.out HPj.out hq3) (by decide))
                    have d : decide (life < now - p.a) = true := by simp [hq3]
                    clear hq3
                    refine region_bw (by kernel_rfl) (by kernel_rfl) ?_
                    iterate 15 go_big_quiet_step (fail)
                    refine wpQuiet_nil ?_
                    rintro _ ⟨x, rfl⟩
                    obtain ⟨wy, hx⟩ : ∃ wy, wy = x.w := ⟨_, rfl⟩
                    have BX := Lib.hid (show Below X.heap.size X wy by rw [hx]; exact x.h)
                    rw [← hx]
                    clear hx x
                    have R4' := Lib.hid (R4.out.below BX.out); have R6' := Lib.hid (R6.out.below BX.out); have R8' := Lib.hid (R8.out.below BX.out); have RC' := Lib.hid (RC.out.below BX.out); have R16' := Lib.hid (R16.out.below BX.out); have BQ' := Lib.hid (bthen BQ.out BX.out); have HX' := Lib.hid (heapD HX.out BX.out); have HAe' := Lib.hid ((HAe.out.below BX.out).up BX.out.size)
                    clear R4 R6 R8 RC R16 BQ HX HAe
                    have R4 := R4'; have R6 := R6'; have R8 := R8'; have RC := RC'; have R16 := R16'; have BQ := BQ'; have HX := HX'; have HAe := HAe'
                    clear R4' R6' R8' RC' R16' BQ' HX' HAe'
                    clear q0 q1 q2 q3 hw d BX
                    go_wp2_with (first
                      | (with_reducible refine wpList_loadR rfl 49 (.tmp 4) rfl R4.out rfl Tryz.underlying49 rfl (sizeG _ _ _ _ _) ?_)
                      | (with_reducible refine wpList_storeR rfl 49 (.tmp 8) (.tmp 114) rfl R8.out [.string re, .string ke, .int .i64 life, .int .i64 iss, .slice (some ⟨gb, 0, none⟩) en c2] rfl rfl (lenG _ _ _ _ _ _ _ _ _ _) (sizeG _ _ _ _ _) (g_one _ _ _ _ _ _ _) BQ.out (by omega) ?_))
                    intro w9 R9 B9 H9
                    have HX9 := Lib.hid ((H9.out.2 _ NE.out).trans HX.out)
                    go_wp2_with fail
                    exact leavesM_ret1 rfl HX9.out (results_ctu rfl _ _ _ (w.heap.size + 1 + 1) [.string re, .string ke, .int .i64 life, .int .i64 iss, .slice (some ⟨gb, 0, none⟩) en c2] _ rfl (R9.out.put HX9.out).range Tryz.underlying49 rfl (sizeG _ _ _ _ _)) (by exact VerP.of E.out (belowK_t B9.out (belowK_b (Nat.le_refl _) w9 _ _ _ WD.out HX9.out rfl rfl)) HEN.out ((HAe.out.heapR (fun b o s e => by have := NEW2.out b o s e; omega) H9.out.1 H9.out.2).put HX9.out))
                  · have d : decide (life < now - p.a) = false := by simp only [decide_eq_false_iff_not]; exact hq3
                    have H3 := Lib.hid hq3
                    clear hq3
                    refine region_bw (by kernel_rfl) (by kernel_rfl) ?_
                    iterate 15 go_big_quiet_step (fail)
                    refine wpQuiet_nil ?_
                    rintro _ ⟨x, rfl⟩
                    obtain ⟨wy, hx⟩ : ∃ wy, wy = x.w := ⟨_, rfl⟩
                    have BX := Lib.hid (show Below X.heap.size X wy by rw [hx]; exact x.h)
                    rw [← hx]
                    have B0Y := Lib.hid (belowK_t B0X.out BX.out)
                    clear hx x B0X
                    have R4' := Lib.hid (R4.out.below BX.out); have R6' := Lib.hid (R6.out.below BX.out); have R8' := Lib.hid (R8.out.below BX.out); have RC' := Lib.hid (RC.out.below BX.out); have R16' := Lib.hid (R16.out.below BX.out); have BQ' := Lib.hid (bthen BQ.out BX.out); have HX' := Lib.hid (heapD HX.out BX.out); have HAe' := Lib.hid ((HAe.out.below BX.out).up BX.out.size)
                    clear R4 R6 R8 RC R16 BQ HX HAe
                    have R4 := R4'; have R6 := R6'; have R8 := R8'; have RC := RC'; have R16 := R16'; have BQ := BQ'; have HX := HX'; have HAe := HAe'
                    clear R4' R6' R8' RC' R16' BQ' HX' HAe'
                    clear q0 q1 q2 q3 hw d BX
                    go_wp2_with fail
                    have q0 := fun x : BW wy => R16.out.later x 0
                    have q1 := fun x : BW wy => R4.out.later x 4
                    have q2 := fun x : BW wy => RC.out.later x 7
                    have q3 := fun x : BW wy => NC.out x.w (belowK_t B0Y.out (x.h.mono B0Y.out.size)) 2 _ rfl
                    simp only [List.getElem?_cons_succ, List.getElem?_cons_zero] at q0 q1 q2 q3
                    by_cases hq4 : q.k ≤ p.k
                    · have E := Lib.hid (FX.out 7 l (nonce_used F.out HPj.out (by have := H3.out; omega) hq4) (by decide))
                      have d : decide (q.k ≤ p.k) = true := by simp [hq4]
                      clear hq4
                      refine region_bw (by kernel_rfl) (by kernel_rfl) ?_
                      iterate 9 go_big_quiet_step (fail)
                      refine wpQuiet_nil ?_
                      rintro _ ⟨x, rfl⟩
                      obtain ⟨wz, hx⟩ : ∃ wz, wz = x.w := ⟨_, rfl⟩
                      have BX := Lib.hid (show Below wy.heap.size wy wz by rw [hx]; exact x.h)
                      rw [← hx]
                      clear hx x
                      have R4' := Lib.hid (R4.out.below BX.out); have R6' := Lib.hid (R6.out.below BX.out); have R8' := Lib.hid (R8.out.below BX.out); have RC' := Lib.hid (RC.out.below BX.out); have R16' := Lib.hid (R16.out.below BX.out); have BQ' := Lib.hid (bthen BQ.out BX.out); have HX' := Lib.hid (heapD HX.out BX.out); have HAe' := Lib.hid ((HAe.out.below BX.out).up BX.out.size)
                      clear R4 R6 R8 RC R16 BQ HX HAe
                      have R4 := R4'; have R6 := R6'; have R8 := R8'; have RC := RC'; have R16 := R16'; have BQ := BQ'; have HX := HX'; have HAe := HAe'
                      clear R4' R6' R8' RC' R16' BQ' HX' HAe'
                      clear q0 q1 q2 q3 d BX
                      go_wp2_with (first
                        | (with_reducible refine wpList_loadR rfl 49 (.tmp 4) rfl R4.out rfl Tryz.underlying49 rfl (sizeG _ _ _ _ _) ?_)
                        | (with_reducible refine wpList_storeR rfl 49 (.tmp 8) (.tmp 124) rfl R8.out [.string re, .string ke, .int .i64 life, .int .i64 iss, .slice (some ⟨gb, 0, none⟩) en c2] rfl rfl (lenG _ _ _ _ _ _ _ _ _ _) (sizeG _ _ _ _ _) (g_one _ _ _ _ _ _ _) BQ.out (by omega) ?_))
                      intro w9 R9 B9 H9
                      have HX9 := Lib.hid ((H9.out.2 _ NE.out).trans HX.out)
                      go_wp2_with fail
                      exact leavesM_ret1 rfl HX9.out (results_ctu rfl _ _ _ (w.heap.size + 1 + 1) [.string re, .string ke, .int .i64 life, .int .i64 iss, .slice (some ⟨gb, 0, none⟩) en c2] _ rfl (R9.out.put HX9.out).range Tryz.underlying49 rfl (sizeG _ _ _ _ _)) (by exact VerP.of E.out (belowK_t B9.out (belowK_b (Nat.le_refl _) w9 _ _ _ WD.out HX9.out rfl rfl)) HEN.out ((HAe.out.heapR (fun b o s e => by have := NEW2.out b o s e; omega) H9.out.1 H9.out.2).put HX9.out))
                    · have E := Lib.hid (FY.out _ (nonce_new F.out HPj.out (by have := H3.out; omega) (by omega)))
                      have d : decide (q.k ≤ p.k) = false := by simp only [decide_eq_false_iff_not]; exact hq4
                      clear hq4
                      refine region_bw (by kernel_rfl) (by kernel_rfl) ?_
                      iterate 9 go_big_quiet_step (fail)
                      refine wpQuiet_nil ?_
                      rintro _ ⟨x, rfl⟩
                      obtain ⟨wz, hx⟩ : ∃ wz, wz = x.w := ⟨_, rfl⟩
                      have BX := Lib.hid (show Below wy.heap.size wy wz by rw [hx]; exact x.h)
                      rw [← hx]
                      have B0Z := Lib.hid (belowK_t B0Y.out (BX.out.mono B0Y.out.size))
                      clear hx x B0Y
                      have R4' := Lib.hid (R4.out.below BX.out); have R6' := Lib.hid (R6.out.below BX.out); have R8' := Lib.hid (R8.out.below BX.out); have RC' := Lib.hid (RC.out.below BX.out); have R16' := Lib.hid (R16.out.below BX.out); have BQ' := Lib.hid (bthen BQ.out BX.out); have HX' := Lib.hid (heapD HX.out BX.out); have HAe' := Lib.hid ((HAe.out.below BX.out).up BX.out.size)
                      clear R4 R6 R8 RC R16 BQ HX HAe
                      have R4 := R4'; have R6 := R6'; have R8 := R8'; have RC := RC'; have R16 := R16'; have BQ := BQ'; have HX := HX'; have HAe := HAe'
                      clear R4' R6' R8' RC' R16' BQ' HX' HAe'
                      clear q0 q1 q2 q3 d BX
                      have e4 : wz.cell? ⟨w.heap.size, 4, none⟩ = some (.slice (some ⟨gb, 0, none⟩) en c2) := R4.out.cell 4
                      have e16 : wz.cell? ⟨wx.heap.size, 0, none⟩ = some (.int .i64 (i : Int)) := R16.out.cell 0
                      have e7 : wz.cell? ⟨ws.heap.size, 7, none⟩ = some (.int .i64 q.k) := RC.out.cell 7
                      have CK : wz.cell? ⟨gb, i * 3 + 2, none⟩ = some (.int .i64 p.k) := NC.out wz B0Z.out 2 _ rfl
                      have FZ : wz.frozen? ⟨gb, i * 3 + 2, none⟩ = false := FRZ.out wz B0Z.out
                      have CG := Lib.hid (show ∀ k u, (ncs l)[k]? = some u → wz.cell? ⟨gb, k, none⟩ = some u from fun k u hu => (B0Z.out.cell (p := ⟨gb, k, none⟩) (World.block_lt_of_cell? _ _ (HCG.out k u hu))).trans (HCG.out k u hu))
                      have T4 := Lib.hid (show Row (wz.setCell ⟨gb, i * 3 + 2, none⟩ (.int .i64 q.k)) w.heap.size 49 [.string re, .string ke, .int .i64 life, .int .i64 iss, .slice (some ⟨gb, 0, none⟩) en c2] from R4.out.setOther (by have := GW.out; omega) _)
                      have T8 := Lib.hid (show Row (wz.setCell ⟨gb, i * 3 + 2, none⟩ (.int .i64 q.k)) (w.heap.size + 1 + 1) 49 [.string ⟨#[]⟩, .string ⟨#[]⟩, .int .i64 0, .int .i64 0, .slice none 0 0] from R8.out.setOther (by have := GW.out; omega) _)
                      have TC := Lib.hid (show Row (wz.setCell ⟨gb, i * 3 + 2, none⟩ (.int .i64 q.k)) ws.heap.size 23 [.string (strOfNums q.u), .string (strOfNums q.r), .string (strOfNums q.n), .string (strOfNums q.i), .string (strOfNums q.p), .string (strOfNums q.c), .string (strOfNums q.o), .int .i64 q.k, .bool q.g] from RC.out.setOther (by have := GS.out; omega) _)
                      have TB := Lib.hid (show Below w.heap.size w (wz.setCell ⟨gb, i * 3 + 2, none⟩ (.int .i64 q.k)) from BQ.out.setCell (by have := GW.out; dsimp only; omega) _)
                      have CG2 := Lib.hid (show ∀ k u, (ncs (l.set i ⟨p.v, p.a, q.k⟩))[k]? = some u → (wz.setCell ⟨gb, i * 3 + 2, none⟩ (.int .i64 q.k)).cell? ⟨gb, k, none⟩ = some u from ncs_stored HPj.out CG.out)
                      have TX := Lib.hid (show (wz.setCell ⟨gb, i * 3 + 2, none⟩ (.int .i64 q.k)).heap[D]? = some (.deferred (some [])) from (Below.heap_setCell wz _ _ D (by have := HD.out; have := GX.out; show D ≠ gb; omega)).trans HX.out)
                      clear R4 R6 R8 RC R16 BQ HAe CG B0Z NC FRZ HCG HX
                      go_wp2_with fail
                      clear e4 e16 e7 CK FZ
                      generalize (wz.setCell ⟨gb, i * 3 + 2, none⟩ (.int .i64 q.k)) = wv at *
                      obtain ⟨k0, k1', k2', k3, k4⟩ := T4.out.five
                      obtain ⟨z0, z1, z2, z3, z4⟩ := T8.out.five
                      have c0 : wv.cell? ⟨ws.heap.size, 0, none⟩ = some (.string (strOfNums q.u)) := TC.out.cell 0
                      have f0 := T8.out.frozen 0; have f1 := T8.out.frozen 1; have f2 := T8.out.frozen 2; have f3 := T8.out.frozen 3; have f4 := T8.out.frozen 4
                      have kk : ∀ (X : World) (o : Nat) (u : Value), (X.setCell ⟨w.heap.size + 1 + 1, o, none⟩ u).cell? ⟨ws.heap.size, 0, none⟩ = X.cell? ⟨ws.heap.size, 0, none⟩ := fun X o u => World.cell?_setCell_other _ _ _ _ (by intro e; injection e with e1; have := GS.out; have := GW.out; omega)
                      have rs := (T8.out.setAll [.string re, .string ke, .int .i64 life, .int .i64 iss, .slice (some ⟨gb, 0, none⟩) en c2] rfl).drew
                      have bs2 := (below_setCells (by omega : w.heap.size ≤ (w.heap.size + 1 + 1)) [.string re, .string ke, .int .i64 life, .int .i64 iss, .slice (some ⟨gb, 0, none⟩) en c2] 0 _ TB.out).drew
                      have rd : ∀ k u, (ncs (l.set i ⟨p.v, p.a, q.k⟩))[k]? = some u → (wv.setCells (w.heap.size + 1 + 1) 0 [.string re, .string ke, .int .i64 life, .int .i64 iss, .slice (some ⟨gb, 0, none⟩) en c2]).drew.cell? ⟨gb, 0 + k, none⟩ = some u := fun k u hu => by
                        show (wv.setCells (w.heap.size + 1 + 1) 0 [.string re, .string ke, .int .i64 life, .int .i64 iss, .slice (some ⟨gb, 0, none⟩) en c2]).cell? ⟨gb, 0 + k, none⟩ = some u
                        rw [World.cell?_of_block (w := wv) (a := ⟨gb, 0 + k, none⟩) (heap_setCells [.string re, .string ke, .int .i64 life, .int .i64 iss, .slice (some ⟨gb, 0, none⟩) en c2] 0 wv gb (by have := GW.out; omega)), Nat.zero_add]
                        exact CG2.out k u hu
                      have xd : (wv.setCells (w.heap.size + 1 + 1) 0 [.string re, .string ke, .int .i64 life, .int .i64 iss, .slice (some ⟨gb, 0, none⟩) en c2]).drew.heap[D]? = some (.deferred (some [])) := (heap_setCells [.string re, .string ke, .int .i64 life, .int .i64 iss, .slice (some ⟨gb, 0, none⟩) en c2] 0 wv D NE.out).trans TX.out
                      simp only [World.setCells, Nat.zero_add, Nat.reduceAdd] at rs bs2 rd xd
                      have RS := Lib.hid rs; have BS := Lib.hid bs2; have RD := Lib.hid rd; have XD := Lib.hid xd
                      clear rs bs2 rd xd CG2 T4 T8 TC TB TX
                      go_region
                      all_goals clear kk
                      all_goals
                        go_wp2_with fail
                        refine leavesM_ret1 rfl XD.out (results_ctu rfl _ _ _ (w.heap.size + 1 + 1) [.string re, .string ke, .int .i64 life, .int .i64 iss, .slice (some ⟨gb, 0, none⟩) en c2] _ rfl (by exact (RS.out.put XD.out).range) Tryz.underlying49 rfl (sizeG _ _ _ _ _)) (by exact VerP.of E.out (belowK_t BS.out (belowK_b (Nat.le_refl _) _ _ _ _ WD.out XD.out rfl rfl)) (by rw [List.length_set]; exact HEN.out) (Rds.put (fun hn => ⟨gb, 0, rfl, World.block_lt_of_cell? _ _ (RD.out 0 _ (List.getElem?_eq_getElem hn)), fun k u hu => by have := RD.out k u hu; simpa using this⟩) XD.out))
      · obtain rfl : k = n := by omega
        have E := Lib.hid (VN.out NB.out (by rw [HP.out, List.drop_of_length_le (by rw [HN.out]; exact Nat.le_refl _)]; rfl))
        clear R4 R8 BQ
        have R4 := R4r; have R8 := R8r; have BQ := BQr
        have HAe := Lib.hid ((HAs.out.below BR.out).up BR.out.size)
        go_wp2_with (first
          | (with_reducible refine wpList_loadR rfl 49 (.tmp 4) rfl R4.out rfl Tryz.underlying49 rfl (sizeG _ _ _ _ _) ?_)
          | (with_reducible refine wpList_storeR rfl 49 (.tmp 8) (.tmp 58) rfl R8.out [.string re, .string ke, .int .i64 life, .int .i64 iss, .slice A2 en c2] rfl rfl (lenG _ _ _ _ _ _ _ _ _ _) (sizeG _ _ _ _ _) (g_one _ _ _ _ _ _ _) BQ.out (by omega) ?_))
        intro w9 R9 B9 H9
        go_wp2_with fail
        exact leavesM_ret (results_ctu rfl _ _ _ (w.heap.size + 1 + 1) [.string re, .string ke, .int .i64 life, .int .i64 iss, .slice A2 en c2] _ rfl R9.out.range Tryz.underlying49 rfl (sizeG _ _ _ _ _)) rfl (by exact VerP.of E.out B9.out HEN.out (HAe.out.heapR (fun b o s e => by have := NEW2.out b o s e; omega) H9.out.1 H9.out.2))
  · have d0 : (code != 0) = true := by simp [k0]
    clear k0
    have E := Lib.hid (VB.out (by rw [BV.out, d0]; rfl))
    go_wp2_with (with_reducible refine wpList_storeR rfl 49 (.tmp 8) (.tmp 35) rfl R8.out [.string ⟨#[]⟩, .string ⟨#[]⟩, .int .i64 0, .int .i64 0, .slice none 0 0] rfl rfl (lenG _ _ _ _ _ _ _ _ _ _) (sizeG _ _ _ _ _) (g_one _ _ _ _ _ _ _) BQ.out (by omega) ?_)
    intro w9 R9 B9 _
    go_wp2_with fail
    exact leavesM_ret (results_ctu rfl _ _ _ (w.heap.size + 1 + 1) [.string ⟨#[]⟩, .string ⟨#[]⟩, .int .i64 0, .int .i64 0, .slice none 0 0] _ rfl R9.out.range Tryz.underlying49 rfl sizeG3) rfl (by exact VerP.zero E.out B9.out)
end Go.Proofs.YtfhbpgickkibmaaGreatDoor
