/- Contract: the reference's Normal. Contracts: the reference's Print, Equal. -/
import Derived.Test.YthfonniieaiocaaGreatDoorTd
import Derived.Test.YthfonniieaiocaaGreatDoorXq
import Derived.Test.YthfonniieaiocaaGreatDoorWp
import Derived.Test.YthfonniieaiocaaGreatDoorWe
import Derived.Test.YthfonniieaiocaaGreatDoorWh
set_option linter.unusedVariables false
set_option linter.unusedSimpArgs false
set_option maxRecDepth 100000
namespace Go.Proofs.YthfonniieaiocaaGreatDoor
open Go.RowKit

structure NP (w : World) (ub rb : Nat) (us : List Value) (vs : List (Value × List Pm)) (wx : World) : Prop where
  m : Mine w wx [(ub, 32, us), (rb, 32, uZ)] []
  v : ∀ x ∈ vs, VX 56 3 w x.1 x.2.length (pms x.2) wx
section
variable {w wx w2 : World} {ub rb : Nat} {us : List Value} {vs : List (Value × List Pm)}
theorem NP.ur (h : NP w ub rb us vs wx) : Row wx ub 32 us := h.m.row (i := 0) rfl
theorem NP.call (h : NP w ub rb us vs wx) (hb : Below wx.heap.size wx w2) : NP w ub rb us vs w2 := ⟨h.m.call hb, fun x hx => (h.v x hx).step hb⟩
theorem NP.set (h : NP w ub rb us vs wx) (n : Nat) (u : Value) : NP w ub rb (us.set n u) vs (wx.setCell ⟨ub, n, none⟩ u) :=
  ⟨h.m.setCell (i := 0) (off := n) u rfl rfl, fun x hx => (h.v x hx).other (h.m.bw.setCell (h.m.ge (i := 0) rfl) u) fun g hg => Below.heap_setCell wx ⟨ub, n, none⟩ u g (rowT_nv h.ur (h.v x hx) (by decide) g hg)⟩
theorem NP.more (h : NP w ub rb us vs wx) {v : Value} {l : List Pm} {n : Nat} (hn : l.length = n) (hv : VX 56 3 wx v n (pms l) w2) : NP w ub rb us ((v, l) :: vs) w2 := by
  subst hn
  have h2 := h.call hv.bw
  refine ⟨h2.m, fun x hx => ?_⟩
  rcases List.mem_cons.1 hx with rfl | hx
  · exact hv.base h.m.bw
  · exact h2.v x hx
end
theorem fldsN_map (k : Int) : ∀ (l acc m : List Pm), fldsN k l acc = some m → m = acc ++ l.map lowPm
  | [], acc, m, h => by
    unfold fldsN at h
    injection h with h
    rw [← h]; simp
  | p :: r, acc, m, h => by
    rw [fldsN_cons] at h
    split at h
    · cases h
    · split at h
      · cases h
      · rw [fldsN_map k r _ m h]; simp [lowPm]
theorem flds_map {k : Int} {l m : List Pm} (h : fldsL l k = some m) : m = sortPm (l.map lowPm) ∧ m.length = l.length := by
  unfold fldsL at h
  split at h
  · cases h
  · rw [Option.map_eq_some_iff] at h
    obtain ⟨m', h1, h2⟩ := h
    have h3 := fldsN_map k l [] m' h1
    rw [List.nil_append] at h3
    subst h3
    subst h2
    exact ⟨rfl, by rw [sort_len, List.length_map]⟩
theorem dial_clean {s : List Int} (h : dialedL s = true) : clean s = true := by
  have h2 := phone_read h [] [] (.inl rfl)
  rw [List.append_nil, List.nil_append] at h2
  unfold dialedL at h
  simp only [Bool.and_eq_true] at h
  unfold clean
  rw [List.all_eq_true]
  intro c hc
  have hd := h.2
  have key : ∀ d : List Int, d.all (telC (decide (s.head? = some 43))) = true → ∀ x ∈ d, (!isCtl x) = true := fun d hd x hx => by
    have := telC_range (List.all_eq_true.1 hd x hx)
    unfold isCtl
    simp
    omega
  by_cases hs : s.head? = some 43
  · rw [decide_eq_true hs, if_pos rfl] at hd
    cases s with
    | nil => cases hc
    | cons a r =>
      have ha : a = 43 := by simpa using hs
      rcases List.mem_cons.1 hc with rfl | hc
      · subst ha; rfl
      · exact key r (by rw [decide_eq_true hs]; exact hd) c hc
  · rw [decide_eq_false hs, if_neg (by decide)] at hd
    exact key s (by rw [decide_eq_false hs]; exact hd) c hc
theorem norm_none1 {u : Uri} (h : fldsL u.ps 1 = none) : normL u = none := by unfold normL; rw [h]
theorem norm_none2 {u : Uri} (h : fldsL u.hs 2 = none) : normL u = none := by unfold normL; rw [h]; cases fldsL u.ps 1 <;> rfl
theorem fine_of {u : Uri} {fn : Bool} {ho : List Int} {ps hs : List Pm} (h : FineOf u fn ho) (h1 : fldsL u.ps 1 = some ps) (h2 : fldsL u.hs 2 = some hs) : normL u = if fn = true then some ⟨lowS u.sc, u.us, ho, u.po, ps, hs⟩ else none := by
  unfold FineOf at h
  rw [h, h1, h2]
theorem norm_clean {u : Uri} (h : clean u.us = false) : normL u = none := by
  cases h1 : fldsL u.ps 1 with
  | none => exact norm_none1 h1
  | some ps =>
    cases h2 : fldsL u.hs 2 with
    | none => exact norm_none2 h2
    | some hs =>
      by_cases hs1 : lowS u.sc = SIPT ∨ lowS u.sc = SIPST
      · rw [fine_of (fine_sip hs1) h1 h2, h, Bool.and_false]; rfl
      · by_cases ht : lowS u.sc = TELT
        · rw [fine_of (fine_tel ht) h1 h2]
          have : dialedL u.us = false := by
            rw [Bool.eq_false_iff]; intro hd
            rw [dial_clean hd] at h; cases h
          rw [this, Bool.and_false]; rfl
        · rw [fine_of (fine_no hs1 ht) h1 h2]; rfl
set_option maxHeartbeats 8000000 in
theorem rnormal_any (u : Uri) (A1 A2 : Option Addr) (c1 c2 : Nat) (w : World) (H : UArg w u A1 A2) (hc1 : u.ps.length ≤ c1) (hc2 : u.hs.length ≤ c2) (hp : -9223372036854775808 ≤ u.po ∧ u.po < 9223372036854775808) (hq1 : u.ps.length ≤ 1000000) (hq2 : u.hs.length ≤ 1000000) :
    Calls Tryz.prog 34 #[uS u A1 A2 c1 c2] w (NormP w (normL u)) := by
  have BAD := kd (fun w' (h : normL u = none) hb => NormP.bad (w := w) (w' := w') h hb)
  have GOOD := kd (fun w' sc us ho po ps hs v1 v2 (h : normL u = some ⟨sc, us, ho, po, ps, hs⟩) h1 h2 => NormP.good (w := w) (w' := w') (v1 := v1) (v2 := v2) h h1 h2)
  have N1 := kd (norm_none1 (u := u)); have N2 := kd (norm_none2 (u := u)); have NC := kd (norm_clean (u := u))
  have FS := kd (fun (h : lowS u.sc = SIPT ∨ lowS u.sc = SIPST) ps hs h1 h2 => fine_of (ps := ps) (hs := hs) (fine_sip h) h1 h2)
  have FT := kd (fun (h : lowS u.sc = TELT) ps hs h1 h2 => fine_of (ps := ps) (hs := hs) (fine_tel h) h1 h2)
  have FN := kd (fun (h : ¬ (lowS u.sc = SIPT ∨ lowS u.sc = SIPST)) (h' : lowS u.sc ≠ TELT) ps hs h1 h2 => fine_of (ps := ps) (hs := hs) (fine_no h h') h1 h2)
  have HU := kd H
  have SB := lowS_by H.by_.sc
  have LO := kd (fun w => reflower_any (strOfNums u.sc) w (by rw [num_size]; exact H.n1))
  rw [byteL_str H.by_.sc] at LO
  have NA := kd (fun w' (hb : Below w.heap.size w w') => rnamed_any A1 _ c1 u.ps 1 w' ((H.step hb).r1) rfl H.l1 hc1 H.s1 (.inl rfl))
  have NB := kd (fun w' (hb : Below w.heap.size w w') => rnamed_any A2 _ c2 u.hs 2 w' ((H.step hb).r2) rfl H.l2 hc2 H.s2 (.inr rfl))
  have PU := kd (fun w => rplain_any (strOfNums u.us) w (by rw [num_size]; exact H.n2))
  rw [byteL_str H.by_.us] at PU
  have L1 := kd (fun w' (hb : Below w.heap.size w w') => rlow_any A1 _ c1 u.ps w' ((H.step hb).r1) rfl hq1 H.s1)
  have L2 := kd (fun w' (hb : Below w.heap.size w w') => rlow_any A2 _ c2 u.hs w' ((H.step hb).r2) rfl hq2 H.s2)
  have HH := kd (fun w => rhost_any (strOfNums u.ho) w (by rw [num_size]; exact H.n3))
  rw [byteL_str H.by_.ho] at HH
  have TD := kd (fun w => rteled_any (strOfNums u.us) w (by rw [num_size]; exact H.n2))
  rw [byteL_str H.by_.us] at TD
  have EH := empty_beq u.ho
  have M0a : Mine w ((w.alloc (.cells #[.string (strOfNums u.sc), .string (strOfNums u.us), .string (strOfNums u.ho), .int .i64 u.po, .slice A1 u.ps.length c1, .slice A2 u.hs.length c2] 32)).alloc (.cells #[.string ⟨#[]⟩, .string ⟨#[]⟩, .string ⟨#[]⟩, .int .i64 0, .slice none 0 0, .slice none 0 0] 32)) [((w.alloc (.cells #[.string (strOfNums u.sc), .string (strOfNums u.us), .string (strOfNums u.ho), .int .i64 u.po, .slice A1 u.ps.length c1, .slice A2 u.hs.length c2] 32)).heap.size, 32, [.string ⟨#[]⟩, .string ⟨#[]⟩, .string ⟨#[]⟩, .int .i64 0, .slice none 0 0, .slice none 0 0]), (w.heap.size, 32, [.string (strOfNums u.sc), .string (strOfNums u.us), .string (strOfNums u.ho), .int .i64 u.po, .slice A1 u.ps.length c1, .slice A2 u.hs.length c2])] [] := ((Mine.refl w).alloc 32 [.string (strOfNums u.sc), .string (strOfNums u.us), .string (strOfNums u.ho), .int .i64 u.po, .slice A1 u.ps.length c1, .slice A2 u.hs.length c2]).alloc 32 [.string ⟨#[]⟩, .string ⟨#[]⟩, .string ⟨#[]⟩, .int .i64 0, .slice none 0 0, .slice none 0 0]
  rw [World.size_alloc] at M0a
  have NP0 := kd (show NP w w.heap.size (w.heap.size + 1) [.string (strOfNums u.sc), .string (strOfNums u.us), .string (strOfNums u.ho), .int .i64 u.po, .slice A1 u.ps.length c1, .slice A2 u.hs.length c2] [] _ from ⟨M0a.sub (fun x hx => by
    simp only [List.mem_cons, List.not_mem_nil, or_false] at hx ⊢
    rcases hx with rfl | rfl
    · exact .inr rfl
    · exact .inl rfl) ((List.Perm.swap _ _ _).nodup_iff.1 M0a.nd), (fun x hx => by cases hx)⟩)
  clear M0a H hc1 hc2
  obtain ⟨usc, us, uho, po, ups, uhs⟩ := u
  dsimp only at *
  obtain ⟨sc, hsc⟩ : ∃ sc, lowS usc = sc := ⟨_, rfl⟩
  rw [hsc] at SB LO FS FT FN
  have HSB := kd SB
  clear hsc SB
  generalize NormP w (normL ⟨usc, us, uho, po, ups, uhs⟩) = PP at *
  generalize normL ⟨usc, us, uho, po, ups, uhs⟩ = R at *
  unfold uS
  dsimp only
  go_enter Tryz.func34, Tryz.ntmps34
  go_upto_region 1 with (fail)
  generalize (w.alloc (.cells #[.string (strOfNums usc), .string (strOfNums us), .string (strOfNums uho), .int .i64 po, .slice A1 ups.length c1, .slice A2 uhs.length c2] 32)).alloc (.cells #[.string ⟨#[]⟩, .string ⟨#[]⟩, .string ⟨#[]⟩, .int .i64 0, .slice none 0 0, .slice none 0 0] 32) = w1 at *
  obtain ⟨rb, hrb⟩ : ∃ rb, w.heap.size + 1 = rb := ⟨_, rfl⟩
  obtain ⟨ub, hub⟩ : ∃ ub, w.heap.size = ub := ⟨_, rfl⟩
  rw [hrb, hub] at NP0
  rw [hrb, hub]
  clear hrb hub
  have k0 := NP0.out.ur.cell 0; (try simp only [List.getElem?_cons_succ, List.getElem?_cons_zero] at k0)
  go_upto_region 2 with (go_at_call 65; refine (LO.out _).mono ?_; rintro _ w2 ⟨rfl, hb2⟩; have NP1 := kd (NP0.out.call hb2); have k0b := NP1.out.ur.cell 0; (try simp only [List.getElem?_cons_succ, List.getElem?_cons_zero] at k0b); have f0 := NP1.out.ur.frozen 0)
  have NP2a := NP1.out.set 0 (.string (strOfNums sc))
  simp only [List.set_cons_succ, List.set_cons_zero] at NP2a
  have NP2 := kd NP2a
  clear NP2a k0 k0b f0 hb2 NP0 NP1 LO
  generalize w2.setCell ⟨ub, 0, none⟩ (.string (strOfNums sc)) = w3 at *
  have k4 := NP2.out.ur.cell 4; (try simp only [List.getElem?_cons_succ, List.getElem?_cons_zero] at k4)
  cases h1 : fldsL ups 1 with
  | none =>
    have E := kd (N1.out h1)
    rw [h1] at NA
    clear N1 N2 NC FS FT FN NB PU L1 L2 HH TD GOOD h1
    go_upto_region 3 with (go_at_call 100; refine (NA.out _ NP2.out.m.bw).mono ?_; rintro _ w4 ⟨rfl, hb4⟩; have NP3 := kd (NP2.out.call hb4))
    clear k4 hb4 NP2 NA
    have RR := kd (show Row _ rb 32 [.string ⟨#[]⟩, .string ⟨#[]⟩, .string ⟨#[]⟩, .int .i64 0, .slice none 0 0, .slice none 0 0] from NP3.out.m.row (i := 1) rfl)
    have GB := kd (fun w9 (hg : World.grownBy _ w9 (some rb)) => mine_gb NP3.out.m (i := 1) rfl hg)
    go_wp2_with (with_reducible refine wpList_storeG rfl 32 (.tmp 2) (.tmp 26) rfl RR.out [.string ⟨#[]⟩, .string ⟨#[]⟩, .string ⟨#[]⟩, .int .i64 0, .slice none 0 0, .slice none 0 0] rfl rfl (lenU _ _ _ _ _ _ _ _ _ _ _ _) (sizeU _ _ _ _ _ _) (u_one _ _ _ _) ?_)
    intro w9 R9 G9
    have BW9 := kd (GB.out _ G9.out)
    go_wp2_with fail
    exact bodyPost_ret (results_ct rfl _ _ _ rb [.string ⟨#[]⟩, .string ⟨#[]⟩, .string ⟨#[]⟩, .int .i64 0, .slice none 0 0, .slice none 0 0] _ rfl R9.out.range Tryz.underlying32 rfl (by exact sizeU _ _ _ _ _ _)) rfl (by exact BAD.out _ E.out BW9.out)
  | some m1 =>
  rw [h1] at NA
  cases h2 : fldsL uhs 2 with
  | none =>
    have E := kd (N2.out h2)
    rw [h2] at NB
    clear N1 N2 NC FS FT FN PU L1 L2 HH TD GOOD h1 h2
    go_wp2_with fail
    refine (NA.out _ NP2.out.m.bw).mono ?_
    rintro _ w4 ⟨rfl, hb4⟩
    have NP3 := kd (NP2.out.call hb4)
    have k5 := NP3.out.ur.cell 5; (try simp only [List.getElem?_cons_succ, List.getElem?_cons_zero] at k5)
    clear k4 hb4 NP2 NA
    go_upto_region 3 with (go_at_call 100; refine (NB.out _ NP3.out.m.bw).mono ?_; rintro _ w5 ⟨rfl, hb5⟩; have NP4 := kd (NP3.out.call hb5))
    clear k5 hb5 NP3 NB
    have RR := kd (show Row _ rb 32 [.string ⟨#[]⟩, .string ⟨#[]⟩, .string ⟨#[]⟩, .int .i64 0, .slice none 0 0, .slice none 0 0] from NP4.out.m.row (i := 1) rfl)
    have GB := kd (fun w9 (hg : World.grownBy _ w9 (some rb)) => mine_gb NP4.out.m (i := 1) rfl hg)
    go_wp2_with (with_reducible refine wpList_storeG rfl 32 (.tmp 2) (.tmp 26) rfl RR.out [.string ⟨#[]⟩, .string ⟨#[]⟩, .string ⟨#[]⟩, .int .i64 0, .slice none 0 0, .slice none 0 0] rfl rfl (lenU _ _ _ _ _ _ _ _ _ _ _ _) (sizeU _ _ _ _ _ _) (u_one _ _ _ _) ?_)
    intro w9 R9 G9
    have BW9 := kd (GB.out _ G9.out)
    go_wp2_with fail
    exact bodyPost_ret (results_ct rfl _ _ _ rb [.string ⟨#[]⟩, .string ⟨#[]⟩, .string ⟨#[]⟩, .int .i64 0, .slice none 0 0, .slice none 0 0] _ rfl R9.out.range Tryz.underlying32 rfl (by exact sizeU _ _ _ _ _ _)) rfl (by exact BAD.out _ E.out BW9.out)
  | some m2 =>
  rw [h2] at NB
  go_wp2_with fail
  refine (NA.out _ NP2.out.m.bw).mono ?_
  rintro _ w4 ⟨rfl, hb4⟩
  have NP3 := kd (NP2.out.call hb4)
  have k5 := NP3.out.ur.cell 5; (try simp only [List.getElem?_cons_succ, List.getElem?_cons_zero] at k5)
  clear k4 hb4 NP2 NA
  go_wp2_with fail
  refine (NB.out _ NP3.out.m.bw).mono ?_
  rintro _ w5 ⟨rfl, hb5⟩
  have NP4 := kd (NP3.out.call hb5)
  have k1 := NP4.out.ur.cell 1; (try simp only [List.getElem?_cons_succ, List.getElem?_cons_zero] at k1)
  clear k5 hb5 NP3 NB
  cases cu : clean us with
  | false =>
    have E := kd (NC.out cu)
    rw [cu] at PU
    clear N1 N2 NC FS FT FN L1 L2 HH TD GOOD h1 h2 cu
    go_upto_region 3 with (go_at_call 101; refine (PU.out _).mono ?_; rintro _ w6 ⟨rfl, rfl⟩)
    clear k1 PU
    have RR := kd (show Row _ rb 32 [.string ⟨#[]⟩, .string ⟨#[]⟩, .string ⟨#[]⟩, .int .i64 0, .slice none 0 0, .slice none 0 0] from NP4.out.m.row (i := 1) rfl)
    have GB := kd (fun w9 (hg : World.grownBy _ w9 (some rb)) => mine_gb NP4.out.m (i := 1) rfl hg)
    go_wp2_with (with_reducible refine wpList_storeG rfl 32 (.tmp 2) (.tmp 26) rfl RR.out [.string ⟨#[]⟩, .string ⟨#[]⟩, .string ⟨#[]⟩, .int .i64 0, .slice none 0 0, .slice none 0 0] rfl rfl (lenU _ _ _ _ _ _ _ _ _ _ _ _) (sizeU _ _ _ _ _ _) (u_one _ _ _ _) ?_)
    intro w9 R9 G9
    have BW9 := kd (GB.out _ G9.out)
    go_wp2_with fail
    exact bodyPost_ret (results_ct rfl _ _ _ rb [.string ⟨#[]⟩, .string ⟨#[]⟩, .string ⟨#[]⟩, .int .i64 0, .slice none 0 0, .slice none 0 0] _ rfl R9.out.range Tryz.underlying32 rfl (by exact sizeU _ _ _ _ _ _)) rfl (by exact BAD.out _ E.out BW9.out)
  | true =>
  rw [cu] at PU
  have FM1 := kd (flds_map h1); have FM2 := kd (flds_map h2)
  have FS2 := kd (fun h => FS.out h m1 m2 h1 h2); have FT2 := kd (fun h => FT.out h m1 m2 h1 h2); have FN2 := kd (fun h h' => FN.out h h' m1 m2 h1 h2)
  clear N1 N2 NC FS FT FN h1 h2
  go_upto_region 4 with (go_at_call 101; refine (PU.out _).mono ?_; rintro _ w6 ⟨rfl, rfl⟩)
  clear k1 PU
  have k4 := NP4.out.ur.cell 4; (try simp only [List.getElem?_cons_succ, List.getElem?_cons_zero] at k4)
  go_wp2_with fail
  refine (L1.out _ NP4.out.m.bw).mono ?_
  rintro _ w6 ⟨v1, rfl, x1⟩
  rw [← FM1.out.1] at x1
  obtain ⟨D1, e1, hv1⟩ := own_slice x1.o
  subst hv1
  have NP5 := kd (NP4.out.more FM1.out.2 x1)
  have k4b := NP5.out.ur.cell 4; (try simp only [List.getElem?_cons_succ, List.getElem?_cons_zero] at k4b)
  have f4 := NP5.out.ur.frozen 4
  have NP6a := NP5.out.set 4 (.slice D1 ups.length e1)
  simp only [List.set_cons_succ, List.set_cons_zero] at NP6a
  have NP6 := kd NP6a
  clear NP6a k4 x1 NP4 L1
  go_upto_region 5 with (fail)
  clear k4b f4 NP5
  generalize w6.setCell ⟨ub, 4, none⟩ (.slice D1 ups.length e1) = w7 at *
  have k5 := NP6.out.ur.cell 5; (try simp only [List.getElem?_cons_succ, List.getElem?_cons_zero] at k5)
  go_wp2_with fail
  refine (L2.out _ NP6.out.m.bw).mono ?_
  rintro _ w8 ⟨v2, rfl, x2⟩
  rw [← FM2.out.1] at x2
  obtain ⟨D2, e2, hv2⟩ := own_slice x2.o
  subst hv2
  have NP7 := kd (NP6.out.more FM2.out.2 x2)
  have k5b := NP7.out.ur.cell 5; (try simp only [List.getElem?_cons_succ, List.getElem?_cons_zero] at k5b)
  have f5 := NP7.out.ur.frozen 5
  have NP8a := NP7.out.set 5 (.slice D2 uhs.length e2)
  simp only [List.set_cons_succ, List.set_cons_zero] at NP8a
  have NP8 := kd NP8a
  clear NP8a k5 x2 NP6 L2
  go_upto_region 6 with (fail)
  clear k5b f5 NP7
  generalize w8.setCell ⟨ub, 5, none⟩ (.slice D2 uhs.length e2) = w9 at *
  obtain ⟨d1, hd1⟩ : ∃ d1, ups.length = d1 := ⟨_, rfl⟩
  obtain ⟨d2, hd2⟩ : ∃ d2, uhs.length = d2 := ⟨_, rfl⟩
  have HD2 := kd hd2
  rw [hd1, hd2] at NP8
  rw [hd1, hd2]
  clear hd1 hd2 FM1 FM2
  have c0 := NP8.out.ur.cell 0; (try simp only [List.getElem?_cons_succ, List.getElem?_cons_zero] at c0)
  have c1 := NP8.out.ur.cell 1; (try simp only [List.getElem?_cons_succ, List.getElem?_cons_zero] at c1)
  have c2 := NP8.out.ur.cell 2; (try simp only [List.getElem?_cons_succ, List.getElem?_cons_zero] at c2)
  have c3 := NP8.out.ur.cell 3; (try simp only [List.getElem?_cons_succ, List.getElem?_cons_zero] at c3)
  have c5 := NP8.out.ur.cell 5; (try simp only [List.getElem?_cons_succ, List.getElem?_cons_zero] at c5)
  have Q1 := lit_beq HSB.out [115, 105, 112]
  have Q2 := lit_beq HSB.out [115, 105, 112, 115]
  have Q3 := lit_beq HSB.out [116, 101, 108]
  rw [show bl [115, 105, 112] = SIPT from rfl] at Q1
  rw [show bl [115, 105, 112, 115] = SIPST from rfl] at Q2
  rw [show bl [116, 101, 108] = TELT from rfl] at Q3
  have HQ1 := kd Q1; have HQ2 := kd Q2; have HQ3 := kd Q3
  clear Q1 Q2 Q3
  go_upto_if 37 with (fail)
  go_cut [37] (fun v wx => v = .bool (decide (sc = SIPT ∨ sc = SIPST)) ∧ wx = w9)
  case first =>
    by_cases h1 : sc = SIPT
    · have q1 : ((strOfNums sc).toList == [115, 105, 112]) = true := HQ1.out.trans (by rw [h1]; rfl)
      rw [q1]
      have d1 := kd (decide_eq_true (p := sc = SIPT ∨ sc = SIPST) (.inl h1))
      clear h1
      go_wp2_with fail
      go_meet
      exact ⟨congrArg Value.bool d1.out.symm, rfl⟩
    · have q1 : ((strOfNums sc).toList == [115, 105, 112]) = false := HQ1.out.trans (by simpa using fun e => h1 e.symm)
      rw [q1]
      by_cases h2 : sc = SIPST
      · have q2 : ((strOfNums sc).toList == [115, 105, 112, 115]) = true := HQ2.out.trans (by rw [h2]; rfl)
        have d1 := kd (decide_eq_true (p := sc = SIPT ∨ sc = SIPST) (.inr h2))
        clear h1 h2
        go_wp2_with fail
        go_meet
        exact ⟨congrArg Value.bool d1.out.symm, rfl⟩
      · have q2 : ((strOfNums sc).toList == [115, 105, 112, 115]) = false := HQ2.out.trans (by simpa using fun e => h2 e.symm)
        have d1 := kd (decide_eq_false (p := sc = SIPT ∨ sc = SIPST) (by rintro (h | h); exact h1 h; exact h2 h))
        clear h1 h2
        go_wp2_with fail
        go_meet
        exact ⟨congrArg Value.bool d1.out.symm, rfl⟩
  case rest =>
  first | (rename_i KK hKK; obtain ⟨rfl, rfl⟩ := hcut; refine hKK _ _ ?_; clear hKK KK) | obtain ⟨rfl, rfl⟩ := hcut
  by_cases hsip : sc = SIPT ∨ sc = SIPST
  · rw [decide_eq_true hsip]
    have F := kd (FS2.out hsip)
    clear FS2 FT2 FN2 hsip TD HQ1 HQ2 HQ3
    cases hh : hostL uho with
    | none =>
      rw [hh] at HH F
      have E := kd (show R = none by rw [F.out]; rfl)
      clear F GOOD hh
      unfold hostV at HH
      go_upto_region 11 with (go_at_call 21; refine (HH.out _).mono ?_; rintro _ w10 ⟨rfl, hb10⟩; have NP9 := kd (NP8.out.call hb10))
      clear c0 c1 c2 c3 c5 hb10 NP8 HH
      have RR := kd (show Row _ rb 32 [.string ⟨#[]⟩, .string ⟨#[]⟩, .string ⟨#[]⟩, .int .i64 0, .slice none 0 0, .slice none 0 0] from NP9.out.m.row (i := 1) rfl)
      have GB := kd (fun w9 (hg : World.grownBy _ w9 (some rb)) => mine_gb NP9.out.m (i := 1) rfl hg)
      go_wp2_with (with_reducible refine wpList_storeG rfl 32 (.tmp 2) (.tmp 58) rfl RR.out [.string ⟨#[]⟩, .string ⟨#[]⟩, .string ⟨#[]⟩, .int .i64 0, .slice none 0 0, .slice none 0 0] rfl rfl (lenU _ _ _ _ _ _ _ _ _ _ _ _) (sizeU _ _ _ _ _ _) (u_one _ _ _ _) ?_)
      intro w9 R9 G9
      have BW9 := kd (GB.out _ G9.out)
      go_wp2_with fail
      exact bodyPost_ret (results_ct rfl _ _ _ rb [.string ⟨#[]⟩, .string ⟨#[]⟩, .string ⟨#[]⟩, .int .i64 0, .slice none 0 0, .slice none 0 0] _ rfl R9.out.range Tryz.underlying32 rfl (by exact sizeU _ _ _ _ _ _)) rfl (by exact BAD.out _ E.out BW9.out)
    | some h =>
      rw [hh] at HH F
      clear hh
      unfold hostV at HH
      by_cases p0 : po < 0
      · have q0 : decide (po < 0) = true := by simp [p0]
        have E := kd (show R = none by rw [F.out, decide_eq_false (show ¬ (0 ≤ po) by omega)]; simp)
        clear F GOOD p0
        go_upto_region 11 with (go_at_call 21; refine (HH.out _).mono ?_; rintro _ w10 ⟨rfl, hb10⟩; have NP9 := kd (NP8.out.call hb10); have c3b := NP9.out.ur.cell 3; (try simp only [List.getElem?_cons_succ, List.getElem?_cons_zero] at c3b))
        clear c0 c1 c2 c3 c5 c3b hb10 NP8 HH
        have RR := kd (show Row _ rb 32 [.string ⟨#[]⟩, .string ⟨#[]⟩, .string ⟨#[]⟩, .int .i64 0, .slice none 0 0, .slice none 0 0] from NP9.out.m.row (i := 1) rfl)
        have GB := kd (fun w9 (hg : World.grownBy _ w9 (some rb)) => mine_gb NP9.out.m (i := 1) rfl hg)
        go_wp2_with (with_reducible refine wpList_storeG rfl 32 (.tmp 2) (.tmp 58) rfl RR.out [.string ⟨#[]⟩, .string ⟨#[]⟩, .string ⟨#[]⟩, .int .i64 0, .slice none 0 0, .slice none 0 0] rfl rfl (lenU _ _ _ _ _ _ _ _ _ _ _ _) (sizeU _ _ _ _ _ _) (u_one _ _ _ _) ?_)
        intro w9 R9 G9
        have BW9 := kd (GB.out _ G9.out)
        go_wp2_with fail
        exact bodyPost_ret (results_ct rfl _ _ _ rb [.string ⟨#[]⟩, .string ⟨#[]⟩, .string ⟨#[]⟩, .int .i64 0, .slice none 0 0, .slice none 0 0] _ rfl R9.out.range Tryz.underlying32 rfl (by exact sizeU _ _ _ _ _ _)) rfl (by exact BAD.out _ E.out BW9.out)
      have q0 : decide (po < 0) = false := by simpa using p0
      by_cases p1 : 65535 < po
      · have q1 : decide (65535 < po) = true := by simp [p1]
        have E := kd (show R = none by rw [F.out, decide_eq_false (show ¬ (po ≤ 65535) by omega)]; simp)
        clear F GOOD p0 p1
        go_upto_region 11 with (go_at_call 21; refine (HH.out _).mono ?_; rintro _ w10 ⟨rfl, hb10⟩; have NP9 := kd (NP8.out.call hb10); have c3b := NP9.out.ur.cell 3; (try simp only [List.getElem?_cons_succ, List.getElem?_cons_zero] at c3b))
        clear c0 c1 c2 c3 c5 c3b hb10 NP8 HH
        have RR := kd (show Row _ rb 32 [.string ⟨#[]⟩, .string ⟨#[]⟩, .string ⟨#[]⟩, .int .i64 0, .slice none 0 0, .slice none 0 0] from NP9.out.m.row (i := 1) rfl)
        have GB := kd (fun w9 (hg : World.grownBy _ w9 (some rb)) => mine_gb NP9.out.m (i := 1) rfl hg)
        go_wp2_with (with_reducible refine wpList_storeG rfl 32 (.tmp 2) (.tmp 58) rfl RR.out [.string ⟨#[]⟩, .string ⟨#[]⟩, .string ⟨#[]⟩, .int .i64 0, .slice none 0 0, .slice none 0 0] rfl rfl (lenU _ _ _ _ _ _ _ _ _ _ _ _) (sizeU _ _ _ _ _ _) (u_one _ _ _ _) ?_)
        intro w9 R9 G9
        have BW9 := kd (GB.out _ G9.out)
        go_wp2_with fail
        exact bodyPost_ret (results_ct rfl _ _ _ rb [.string ⟨#[]⟩, .string ⟨#[]⟩, .string ⟨#[]⟩, .int .i64 0, .slice none 0 0, .slice none 0 0] _ rfl R9.out.range Tryz.underlying32 rfl (by exact sizeU _ _ _ _ _ _)) rfl (by exact BAD.out _ E.out BW9.out)
      have q1 : decide (65535 < po) = false := by simpa using p1
      have E := kd (show R = some ⟨sc, us, h, po, m1, m2⟩ by rw [F.out, decide_eq_true (show 0 ≤ po by omega), decide_eq_true (show po ≤ 65535 by omega), cu]; rfl)
      clear F BAD p0 p1
      go_upto_region 12 with (go_at_call 21; refine (HH.out _).mono ?_; rintro _ w10 ⟨rfl, hb10⟩; have NP9 := kd (NP8.out.call hb10); have c3b := NP9.out.ur.cell 3; (try simp only [List.getElem?_cons_succ, List.getElem?_cons_zero] at c3b))
      have c2b := NP9.out.ur.cell 2; (try simp only [List.getElem?_cons_succ, List.getElem?_cons_zero] at c2b)
      have f2 := NP9.out.ur.frozen 2
      have NP10a := NP9.out.set 2 (.string (strOfNums h))
      simp only [List.set_cons_succ, List.set_cons_zero] at NP10a
      have NP10 := kd NP10a
      clear NP10a c0 c1 c2 c3 c5 c3b hb10 NP8 HH
      go_upto_region 13 with (fail)
      clear c2b f2 NP9
      generalize w10.setCell ⟨ub, 2, none⟩ (.string (strOfNums h)) = w11 at *
      have RR := kd (show Row _ rb 32 [.string ⟨#[]⟩, .string ⟨#[]⟩, .string ⟨#[]⟩, .int .i64 0, .slice none 0 0, .slice none 0 0] from NP10.out.m.row (i := 1) rfl)
      have UR := kd NP10.out.ur
      have GB := kd (fun w9 (hg : World.grownBy _ w9 (some rb)) => mine_gb NP10.out.m (i := 1) rfl hg)
      have X1 := kd (NP10.out.v (.slice D1 d1 e1, m1) (List.mem_cons_of_mem _ (List.mem_cons_self ..)))
      have X2 := kd (NP10.out.v (.slice D2 d2 e2, m2) (List.mem_cons_self ..))
      go_wp2_with (first
        | (with_reducible refine wpList_loadR rfl 32 (.tmp 1) rfl UR.out rfl Tryz.underlying32 rfl (sizeU _ _ _ _ _ _) ?_)
        | (with_reducible refine wpList_storeG rfl 32 (.tmp 2) (.tmp 61) rfl RR.out [.string (strOfNums sc), .string (strOfNums us), .string (strOfNums h), .int .i64 po, .slice D1 d1 e1, .slice D2 d2 e2] rfl rfl (lenU _ _ _ _ _ _ _ _ _ _ _ _) (sizeU _ _ _ _ _ _) (u_one _ _ _ _) ?_; intro w9 R9 G9))
      have BW9 := kd (GB.out _ G9.out)
      have W1 := kd (X1.out.put RR.out (by decide) BW9.out G9.out)
      have W2 := kd (X2.out.put RR.out (by decide) BW9.out G9.out)
      exact bodyPost_ret (results_ct rfl _ _ _ rb [.string (strOfNums sc), .string (strOfNums us), .string (strOfNums h), .int .i64 po, .slice D1 d1 e1, .slice D2 d2 e2] _ rfl R9.out.range Tryz.underlying32 rfl (by exact sizeU _ _ _ _ _ _)) rfl (by exact GOOD.out _ _ _ _ _ _ _ _ _ E.out W1.out W2.out)
  · rw [decide_eq_false hsip]
    by_cases htel : sc = TELT
    · have q3 : ((strOfNums sc).toList == [116, 101, 108]) = true := HQ3.out.trans (by rw [htel]; rfl)
      have F := kd (FT2.out htel)
      clear FS2 FT2 FN2 hsip HQ1 HQ2 HQ3 HH htel
      cases uho with
      | cons a r =>
        have E := kd (show R = none from F.out)
        have EH2 : ((strOfNums (a :: r)).toList == []) = false := EH
        clear F GOOD EH TD
        generalize strOfNums (a :: r) = sho at *
        go_upto_region 17 with (fail)
        clear c0 c1 c2 c3 c5
        have RR := kd (show Row _ rb 32 [.string ⟨#[]⟩, .string ⟨#[]⟩, .string ⟨#[]⟩, .int .i64 0, .slice none 0 0, .slice none 0 0] from NP8.out.m.row (i := 1) rfl)
        have GB := kd (fun w9 (hg : World.grownBy _ w9 (some rb)) => mine_gb NP8.out.m (i := 1) rfl hg)
        go_wp2_with (with_reducible refine wpList_storeG rfl 32 (.tmp 2) (.tmp 84) rfl RR.out [.string ⟨#[]⟩, .string ⟨#[]⟩, .string ⟨#[]⟩, .int .i64 0, .slice none 0 0, .slice none 0 0] rfl rfl (lenU _ _ _ _ _ _ _ _ _ _ _ _) (sizeU _ _ _ _ _ _) (u_one _ _ _ _) ?_)
        intro w9 R9 G9
        have BW9 := kd (GB.out _ G9.out)
        go_wp2_with fail
        exact bodyPost_ret (results_ct rfl _ _ _ rb [.string ⟨#[]⟩, .string ⟨#[]⟩, .string ⟨#[]⟩, .int .i64 0, .slice none 0 0, .slice none 0 0] _ rfl R9.out.range Tryz.underlying32 rfl (by exact sizeU _ _ _ _ _ _)) rfl (by exact BAD.out _ E.out BW9.out)
      | nil =>
      have EH2 : ((strOfNums []).toList == []) = true := EH
      by_cases p0 : po = 0
      · subst p0
        by_cases l0 : d2 = 0
        · cases hd : dialedL us with
          | false =>
            rw [hd] at TD F
            have E := kd (show R = none by rw [F.out]; simp)
            have z1 : ((d2 : Int) == 0) = true := by simp [l0]
            clear F GOOD EH hd
            go_upto_region 17 with (go_at_call 103; refine (TD.out _).mono ?_; rintro _ w10 ⟨rfl, hb10⟩; have NP9 := kd (NP8.out.call hb10))
            clear c0 c1 c2 c3 c5 hb10 NP8
            have RR := kd (show Row _ rb 32 [.string ⟨#[]⟩, .string ⟨#[]⟩, .string ⟨#[]⟩, .int .i64 0, .slice none 0 0, .slice none 0 0] from NP9.out.m.row (i := 1) rfl)
            have GB := kd (fun w9 (hg : World.grownBy _ w9 (some rb)) => mine_gb NP9.out.m (i := 1) rfl hg)
            go_wp2_with (with_reducible refine wpList_storeG rfl 32 (.tmp 2) (.tmp 84) rfl RR.out [.string ⟨#[]⟩, .string ⟨#[]⟩, .string ⟨#[]⟩, .int .i64 0, .slice none 0 0, .slice none 0 0] rfl rfl (lenU _ _ _ _ _ _ _ _ _ _ _ _) (sizeU _ _ _ _ _ _) (u_one _ _ _ _) ?_)
            intro w9 R9 G9
            have BW9 := kd (GB.out _ G9.out)
            go_wp2_with fail
            exact bodyPost_ret (results_ct rfl _ _ _ rb [.string ⟨#[]⟩, .string ⟨#[]⟩, .string ⟨#[]⟩, .int .i64 0, .slice none 0 0, .slice none 0 0] _ rfl R9.out.range Tryz.underlying32 rfl (by exact sizeU _ _ _ _ _ _)) rfl (by exact BAD.out _ E.out BW9.out)
          | true =>
            rw [hd] at TD F
            have E := kd (show R = some ⟨sc, us, [], 0, m1, m2⟩ by rw [F.out, HD2.out, decide_eq_true l0]; rfl)
            have z1 : ((d2 : Int) == 0) = true := by simp [l0]
            clear F BAD EH hd
            go_upto_region 16 with (go_at_call 103; refine (TD.out _).mono ?_; rintro _ w10 ⟨rfl, hb10⟩; have NP9 := kd (NP8.out.call hb10))
            clear c0 c1 c2 c3 c5 hb10 NP8
            have RR := kd (show Row _ rb 32 [.string ⟨#[]⟩, .string ⟨#[]⟩, .string ⟨#[]⟩, .int .i64 0, .slice none 0 0, .slice none 0 0] from NP9.out.m.row (i := 1) rfl)
            have UR := kd NP9.out.ur
            have GB := kd (fun w9 (hg : World.grownBy _ w9 (some rb)) => mine_gb NP9.out.m (i := 1) rfl hg)
            have X1 := kd (NP9.out.v (.slice D1 d1 e1, m1) (List.mem_cons_of_mem _ (List.mem_cons_self ..)))
            have X2 := kd (NP9.out.v (.slice D2 d2 e2, m2) (List.mem_cons_self ..))
            go_wp2_with (first
              | (with_reducible refine wpList_loadR rfl 32 (.tmp 1) rfl UR.out rfl Tryz.underlying32 rfl (sizeU _ _ _ _ _ _) ?_)
              | (with_reducible refine wpList_storeG rfl 32 (.tmp 2) (.tmp 83) rfl RR.out [.string (strOfNums sc), .string (strOfNums us), .string (strOfNums []), .int .i64 0, .slice D1 d1 e1, .slice D2 d2 e2] rfl rfl (lenU _ _ _ _ _ _ _ _ _ _ _ _) (sizeU _ _ _ _ _ _) (u_one _ _ _ _) ?_; intro w9 R9 G9))
            have BW9 := kd (GB.out _ G9.out)
            have W1 := kd (X1.out.put RR.out (by decide) BW9.out G9.out)
            have W2 := kd (X2.out.put RR.out (by decide) BW9.out G9.out)
            exact bodyPost_ret (results_ct rfl _ _ _ rb [.string (strOfNums sc), .string (strOfNums us), .string (strOfNums []), .int .i64 0, .slice D1 d1 e1, .slice D2 d2 e2] _ rfl R9.out.range Tryz.underlying32 rfl (by exact sizeU _ _ _ _ _ _)) rfl (by exact GOOD.out _ _ _ _ _ _ _ _ _ E.out W1.out W2.out)
        · have E := kd (show R = none by rw [F.out, HD2.out, decide_eq_false l0]; simp)
          have z1 : ((d2 : Int) == 0) = false := by simpa using l0
          clear F GOOD EH TD
          go_upto_region 17 with (fail)
          clear c0 c1 c2 c3 c5
          have RR := kd (show Row _ rb 32 [.string ⟨#[]⟩, .string ⟨#[]⟩, .string ⟨#[]⟩, .int .i64 0, .slice none 0 0, .slice none 0 0] from NP8.out.m.row (i := 1) rfl)
          have GB := kd (fun w9 (hg : World.grownBy _ w9 (some rb)) => mine_gb NP8.out.m (i := 1) rfl hg)
          go_wp2_with (with_reducible refine wpList_storeG rfl 32 (.tmp 2) (.tmp 84) rfl RR.out [.string ⟨#[]⟩, .string ⟨#[]⟩, .string ⟨#[]⟩, .int .i64 0, .slice none 0 0, .slice none 0 0] rfl rfl (lenU _ _ _ _ _ _ _ _ _ _ _ _) (sizeU _ _ _ _ _ _) (u_one _ _ _ _) ?_)
          intro w9 R9 G9
          have BW9 := kd (GB.out _ G9.out)
          go_wp2_with fail
          exact bodyPost_ret (results_ct rfl _ _ _ rb [.string ⟨#[]⟩, .string ⟨#[]⟩, .string ⟨#[]⟩, .int .i64 0, .slice none 0 0, .slice none 0 0] _ rfl R9.out.range Tryz.underlying32 rfl (by exact sizeU _ _ _ _ _ _)) rfl (by exact BAD.out _ E.out BW9.out)
      · have E := kd (show R = none by rw [F.out, decide_eq_false p0]; simp)
        have z1 : (po == 0) = false := by simpa using p0
        clear F GOOD EH TD
        go_upto_region 17 with (fail)
        clear c0 c1 c2 c3 c5
        have RR := kd (show Row _ rb 32 [.string ⟨#[]⟩, .string ⟨#[]⟩, .string ⟨#[]⟩, .int .i64 0, .slice none 0 0, .slice none 0 0] from NP8.out.m.row (i := 1) rfl)
        have GB := kd (fun w9 (hg : World.grownBy _ w9 (some rb)) => mine_gb NP8.out.m (i := 1) rfl hg)
        go_wp2_with (with_reducible refine wpList_storeG rfl 32 (.tmp 2) (.tmp 84) rfl RR.out [.string ⟨#[]⟩, .string ⟨#[]⟩, .string ⟨#[]⟩, .int .i64 0, .slice none 0 0, .slice none 0 0] rfl rfl (lenU _ _ _ _ _ _ _ _ _ _ _ _) (sizeU _ _ _ _ _ _) (u_one _ _ _ _) ?_)
        intro w9 R9 G9
        have BW9 := kd (GB.out _ G9.out)
        go_wp2_with fail
        exact bodyPost_ret (results_ct rfl _ _ _ rb [.string ⟨#[]⟩, .string ⟨#[]⟩, .string ⟨#[]⟩, .int .i64 0, .slice none 0 0, .slice none 0 0] _ rfl R9.out.range Tryz.underlying32 rfl (by exact sizeU _ _ _ _ _ _)) rfl (by exact BAD.out _ E.out BW9.out)
    · have q3 : ((strOfNums sc).toList == [116, 101, 108]) = false := HQ3.out.trans (by simpa using fun e => htel e.symm)
      have E := kd (show R = none by rw [FN2.out hsip htel]; rfl)
      clear FS2 FT2 FN2 hsip HQ1 HQ2 HQ3 HH TD htel GOOD
      go_upto_region 17 with (fail)
      clear c0 c1 c2 c3 c5 q3
      have RR := kd (show Row _ rb 32 [.string ⟨#[]⟩, .string ⟨#[]⟩, .string ⟨#[]⟩, .int .i64 0, .slice none 0 0, .slice none 0 0] from NP8.out.m.row (i := 1) rfl)
      have GB := kd (fun w9 (hg : World.grownBy _ w9 (some rb)) => mine_gb NP8.out.m (i := 1) rfl hg)
      go_wp2_with (with_reducible refine wpList_storeG rfl 32 (.tmp 2) (.tmp 84) rfl RR.out [.string ⟨#[]⟩, .string ⟨#[]⟩, .string ⟨#[]⟩, .int .i64 0, .slice none 0 0, .slice none 0 0] rfl rfl (lenU _ _ _ _ _ _ _ _ _ _ _ _) (sizeU _ _ _ _ _ _) (u_one _ _ _ _) ?_)
      intro w9 R9 G9
      have BW9 := kd (GB.out _ G9.out)
      go_wp2_with fail
      exact bodyPost_ret (results_ct rfl _ _ _ rb [.string ⟨#[]⟩, .string ⟨#[]⟩, .string ⟨#[]⟩, .int .i64 0, .slice none 0 0, .slice none 0 0] _ rfl R9.out.range Tryz.underlying32 rfl (by exact sizeU _ _ _ _ _ _)) rfl (by exact BAD.out _ E.out BW9.out)
end Go.Proofs.YthfonniieaiocaaGreatDoor
namespace Go.Proofs.YthfonniieaiocaaGreatDoor
open Go.RowKit

structure RArg (w : World) (u : Uri) (A1 A2 : Option Addr) (c1 c2 : Nat) : Prop where
  a : UArg w u A1 A2
  k1 : u.ps.length ≤ c1
  k2 : u.hs.length ≤ c2
  po : -9223372036854775808 ≤ u.po ∧ u.po < 9223372036854775808
  q1 : u.ps.length ≤ 1000000
  q2 : u.hs.length ≤ 1000000
theorem RArg.step {w w' : World} {u : Uri} {A1 A2 : Option Addr} {c1 c2 : Nat} (h : RArg w u A1 A2 c1 c2) (hb : Below w.heap.size w w') : RArg w' u A1 A2 c1 c2 := { h with a := h.a.step hb }
theorem rnorm_good {u n : Uri} (h : normL u = some n) (A1 A2 : Option Addr) (c1 c2 : Nat) (w : World) (H : RArg w u A1 A2 c1 c2) :
    Calls Tryz.prog 34 #[uS u A1 A2 c1 c2] w fun e w' => ∃ B1 B2 d1 d2, e = .returned (.tuple #[uS n B1 B2 d1 d2, .int .u8 0]) ∧ Below w.heap.size w w' ∧ UArg w' n B1 B2 := by
  refine (rnormal_any u A1 A2 c1 c2 w H.a H.k1 H.k2 H.po H.q1 H.q2).mono ?_
  intro e w' hr
  rw [h] at hr
  obtain ⟨v1, v2, rfl, h1, h2⟩ := hr
  have hb := h1.bw
  obtain ⟨B1, d1, rfl, r1⟩ := h1.rdw
  obtain ⟨B2, d2, rfl, r2⟩ := h2.rdw
  exact ⟨B1, B2, d1, d2, rfl, hb, uarg_norm H.a h r1 r2⟩
theorem rnorm_bad {u : Uri} (h : normL u = none) (A1 A2 : Option Addr) (c1 c2 : Nat) (w : World) (H : RArg w u A1 A2 c1 c2) :
    Calls Tryz.prog 34 #[uS u A1 A2 c1 c2] w fun e w' => e = .returned (.tuple #[.agg #[.string ⟨#[]⟩, .string ⟨#[]⟩, .string ⟨#[]⟩, .int .i64 0, .slice none 0 0, .slice none 0 0], .int .u8 2]) ∧ Below w.heap.size w w' := by
  refine (rnormal_any u A1 A2 c1 c2 w H.a H.k1 H.k2 H.po H.q1 H.q2).mono ?_
  intro e w' hr
  rw [h] at hr
  exact hr
theorem print_tel {n : Uri} (h : UriN n) (ht : n.sc = TELT) : [116, 101, 108, 58] ++ n.us ++ wrT 1 [59] [59] n.ps = printN n := by
  rcases h.k with ⟨hs, _⟩ | ⟨_, k2, k3, k4, _⟩
  · rw [ht] at hs; exact absurd hs (by decide)
  · unfold printN
    rw [ht, if_pos rfl, k2, k3, if_pos rfl, k4, wrT_ps]
    simp [TELT, hdsT]
theorem print_sip {n : Uri} (h : UriN n) (ht : n.sc ≠ TELT) : (n.sc ++ [58] ++ (if n.us = [] then [] else escT 0 n.us ++ [64]) ++ n.ho ++ (if n.po = 0 then [] else [58] ++ decL n.po)) ++ wrT 1 [59] [59] n.ps ++ wrT 2 [63] [38] n.hs = printN n := by
  unfold printN
  rw [if_neg ht, wrT_ps, wrT_hs [63] n.hs true (fun p hp => by
    have := (h.hs.f p hp).h
    cases hh : p.h with
    | true => rfl
    | false => exact absurd (.inl ⟨rfl, hh⟩) this) rfl]
theorem wrT_len (k : Int) (m2 : List Int) (hm2 : m2.length ≤ 10) : ∀ (l : List Pm) (m1 : List Int), m1.length ≤ 10 → (∀ p ∈ l, pmSz p) → (wrT k m1 m2 l).length ≤ l.length * 25000000
  | [], _, _, _ => by simp [wrT]
  | p :: r, m1, h1, h => by
    have ih := wrT_len k m2 hm2 r m2 hm2 (fun q hq => h q (List.mem_cons_of_mem _ hq))
    have hp := h p (List.mem_cons_self ..)
    have e1 := esc3 k p.n
    have e2 := esc3 k p.v
    have n1 := hp.2.2.1
    have n2 := hp.2.2.2
    unfold wrT
    rw [List.length_append, List.length_append, List.length_append, List.length_cons]
    split
    · rw [List.length_append, List.length_singleton]; omega
    · rw [List.length_nil]; omega
set_option maxHeartbeats 4000000 in
theorem rprint_any (u : Uri) (A1 A2 : Option Addr) (c1 c2 : Nat) (w : World) (H : RArg w u A1 A2 c1 c2) :
    Calls Tryz.prog 35 #[uS u A1 A2 c1 c2] w (PriP w (printU u)) := by
  have HU := kd H
  have B1 := kd ((Below.refl w.heap.size w).alloc (Nat.le_refl _) (.cells ([.string (strOfNums u.sc), .string (strOfNums u.us), .string (strOfNums u.ho), .int .i64 u.po, .slice A1 u.ps.length c1, .slice A2 u.hs.length c2] : List Value).toArray 32))
  have R1 := kd (Row.new w 32 [.string (strOfNums u.sc), .string (strOfNums u.us), .string (strOfNums u.ho), .int .i64 u.po, .slice A1 u.ps.length c1, .slice A2 u.hs.length c2])
  have UB := kd H.a.by_
  clear H
  cases hn : normL u with
  | none =>
    have NB := kd (fun w' (hb : Below w.heap.size w w') => rnorm_bad hn A1 A2 c1 c2 w' (HU.out.step hb))
    have E := kd (show printU u = none by unfold printU; rw [hn]; rfl)
    generalize printU u = R at *
    clear hn
    unfold uS at NB ⊢
    go_enter Tryz.func35, Tryz.ntmps35
    go_upto_region 1 with (fail)
    generalize w.alloc (.cells #[.string (strOfNums u.sc), .string (strOfNums u.us), .string (strOfNums u.ho), .int .i64 u.po, .slice A1 u.ps.length c1, .slice A2 u.hs.length c2] 32) = w1 at *
    go_wp2_with (with_reducible refine wpList_loadR rfl 32 (.tmp 1) rfl R1.out rfl Tryz.underlying32 rfl (sizeU _ _ _ _ _ _) ?_)
    refine (NB.out w1 B1.out).mono ?_
    rintro _ w2 ⟨rfl, hb2⟩
    have B2 := kd (bthen B1.out hb2)
    clear NB hb2
    go_upto_region 2 with (with_reducible refine wpList_storeN rfl 32 (.tmp 4) (.tmp 10) rfl [.string ⟨#[]⟩, .string ⟨#[]⟩, .string ⟨#[]⟩, .int .i64 0, .slice none 0 0, .slice none 0 0] [.string ⟨#[]⟩, .string ⟨#[]⟩, .string ⟨#[]⟩, .int .i64 0, .slice none 0 0, .slice none 0 0] rfl rfl (lenU _ _ _ _ _ _ _ _ _ _ _ _) (sizeU _ _ _ _ _ _) (u_one _ _ _ _) ?_; intro w3 R3 B3)
    have B4 := kd (bthen B2.out B3.out)
    go_wp2_with fail
    go_ret2
    exact ⟨B4.out, by rw [E.out]; rfl⟩
  | some n =>
    have NG := kd (fun w' (hb : Below w.heap.size w w') => rnorm_good hn A1 A2 c1 c2 w' (HU.out.step hb))
    have E := kd (show printU u = some (printN n) by unfold printU; rw [hn]; rfl)
    have UN := kd (norm_ok UB.out hn)
    generalize printU u = R at *
    clear hn
    unfold uS at NG ⊢
    go_enter Tryz.func35, Tryz.ntmps35
    go_upto_region 1 with (fail)
    generalize w.alloc (.cells #[.string (strOfNums u.sc), .string (strOfNums u.us), .string (strOfNums u.ho), .int .i64 u.po, .slice A1 u.ps.length c1, .slice A2 u.hs.length c2] 32) = w1 at *
    go_wp2_with (with_reducible refine wpList_loadR rfl 32 (.tmp 1) rfl R1.out rfl Tryz.underlying32 rfl (sizeU _ _ _ _ _ _) ?_)
    refine (NG.out w1 B1.out).mono ?_
    rintro _ w2 ⟨D1, D2, d1, d2, rfl, hb2, ua⟩
    have UA := kd ua
    have B2 := kd (bthen B1.out hb2)
    clear NG hb2 ua
    go_upto_region 2 with (with_reducible refine wpList_storeN rfl 32 (.tmp 4) (.tmp 10) rfl [.string ⟨#[]⟩, .string ⟨#[]⟩, .string ⟨#[]⟩, .int .i64 0, .slice none 0 0, .slice none 0 0] [.string (strOfNums n.sc), .string (strOfNums n.us), .string (strOfNums n.ho), .int .i64 n.po, .slice D1 n.ps.length d1, .slice D2 n.hs.length d2] rfl rfl (lenU _ _ _ _ _ _ _ _ _ _ _ _) (sizeU _ _ _ _ _ _) (u_one _ _ _ _) ?_; intro w3 R3 B3)
    have B4 := kd (bthen B2.out B3.out)
    replace UA := kd (UA.out.step B3.out)
    generalize w2.heap.size = g at *
    clear B2 B3 R1 B1 HU
    have WP := kd (fun w' (hb : Below w3.heap.size w3 w') => rwrite_any D1 _ d1 n.ps ⟨#[59]⟩ ⟨#[59]⟩ 1 w' ((UA.out.step hb).r1) rfl (by have := UN.out.ps.len; omega) (by decide) (by decide) UA.out.s1)
    have WH := kd (fun w' (hb : Below w3.heap.size w3 w') => rwrite_any D2 _ d2 n.hs ⟨#[63]⟩ ⟨#[38]⟩ 2 w' ((UA.out.step hb).r2) rfl (by have := UN.out.hs.len; omega) (by decide) (by decide) UA.out.s2)
    simp only [show byteL ⟨#[59]⟩ = [59] by rfl, show byteL ⟨#[63]⟩ = [63] by rfl, show byteL ⟨#[38]⟩ = [38] by rfl] at WP WH
    have LP1 := wrT_len 1 [59] (by decide) n.ps [59] (by decide) UA.out.s1
    have LH1 := wrT_len 2 [38] (by decide) n.hs [63] (by decide) UA.out.s2
    have l16 := UN.out.ps.len
    have h16 := UN.out.hs.len
    have n1 := UA.out.n1; have n2 := UA.out.n2; have n3 := UA.out.n3
    have SS := num_size n.sc; have SU := num_size n.us; have SH := num_size n.ho
    have SP := num_size (wrT 1 [59] [59] n.ps); have SHH := num_size (wrT 2 [63] [38] n.hs)
    have SCB := kd (show By n.sc from UA.out.by_.sc)
    have Q3 := lit_beq SCB.out [116, 101, 108]
    rw [show bl [116, 101, 108] = TELT from rfl] at Q3
    have Q3H := kd Q3
    clear Q3
    have k0 : w3.cell? ⟨g, 0, none⟩ = some (.string (strOfNums n.sc)) := R3.out.cell 0
    have k1 : w3.cell? ⟨g, 1, none⟩ = some (.string (strOfNums n.us)) := R3.out.cell 1
    have k2 : w3.cell? ⟨g, 2, none⟩ = some (.string (strOfNums n.ho)) := R3.out.cell 2
    have k3 : w3.cell? ⟨g, 3, none⟩ = some (.int .i64 n.po) := R3.out.cell 3
    have k4 : w3.cell? ⟨g, 4, none⟩ = some (.slice D1 n.ps.length d1) := R3.out.cell 4
    have k5 : w3.cell? ⟨g, 5, none⟩ = some (.slice D2 n.hs.length d2) := R3.out.cell 5
    by_cases htel : n.sc = TELT
    · have q3 : ((strOfNums n.sc).toList == [116, 101, 108]) = true := Q3H.out.trans (by rw [htel]; rfl)
      have PT := kd (print_tel UN.out htel)
      have J1 := kd (show (⟨#[116, 101, 108, 58]⟩ : ByteArray) ++ strOfNums n.us ++ strOfNums (wrT 1 [59] [59] n.ps) = strOfNums (printN n) by rw [← PT.out, show (⟨#[116, 101, 108, 58]⟩ : ByteArray) = strOfNums [116, 101, 108, 58] by rfl, str_append, str_append])
      have cc1 : ¬ (9223372036854775807 < 4 + (strOfNums n.us).size) := by rw [SU]; omega
      have cc2 : ¬ (9223372036854775807 < 4 + (strOfNums n.us).size + (strOfNums (wrT 1 [59] [59] n.ps)).size) := by rw [SU, SP]; omega
      have WPx := kd (fun (x : BW w3) => WP.out x.w x.h)
      have q1 : ∀ x : BW w3, x.w.cell? ⟨g, 1, none⟩ = some (.string (strOfNums n.us)) := fun x => R3.out.later x 1
      have q4 : ∀ x : BW w3, x.w.cell? ⟨g, 4, none⟩ = some (.slice D1 n.ps.length d1) := fun x => R3.out.later x 4
      clear WH PT htel Q3H k1 k2 k3 k4 k5 LP1 LH1 l16 h16 n1 n2 n3 SS SU SH SP SHH
      go_upto_region 5 with (fail)
      clear k0 q3
      generalize strOfNums (wrT 1 [59] [59] n.ps) = wp at *
      generalize strOfNums n.us = sus at *
      refine region_bw (by kernel_rfl) (by kernel_rfl) ?_
      repeat go_big_quiet_step (fail)
      go_big_quiet_step (exact calls_bw (WPx.out _))
      repeat go_big_quiet_step (fail)
      refine wpQuiet_nil ?_
      rintro _ ⟨y, rfl⟩
      have B5 := kd (bthen B4.out y.h)
      clear q1 q4 WPx WP
      generalize y.w = w5 at *
      go_wp2_with fail
      go_ret2
      exact ⟨B5.out, by rw [E.out, J1.out]; rfl⟩
    · have q3 : ((strOfNums n.sc).toList == [116, 101, 108]) = false := Q3H.out.trans (by simpa using fun e => htel e.symm)
      have PT := kd (print_sip UN.out htel)
      have po1 : 0 ≤ n.po ∧ n.po ≤ 65535 := by
        rcases UN.out.k with ⟨_, _, _, h1, h2, _⟩ | ⟨_, _, h3, _⟩
        · exact ⟨h1, h2⟩
        · rw [h3]; decide
      have EU := kd (fun w => rescape_any (strOfNums n.us) 0 w (by rw [num_size]; exact n2))
      rw [byteL_str UN.out.us] at EU
      have L2 := esc3 0 n.us
      have SE := num_size (escT 0 n.us)
      have cs1 : ¬ (9223372036854775807 < (strOfNums n.sc).size + 1) := by rw [SS]; omega
      have JA := kd (show strOfNums n.sc ++ ⟨#[58]⟩ = strOfNums (n.sc ++ [58]) by rw [show (⟨#[58]⟩ : ByteArray) = strOfNums [58] by rfl, str_append])
      clear htel Q3H
      have EUe := empty_beq n.us
      have EUe2 : ((strOfNums n.us).toList != ([] : List UInt8)) = !n.us.isEmpty := by rw [bne, EUe]
      go_upto_if 30 with (fail)
      rw [JA.out]
      clear k0 q3 cs1 JA EUe EUe2
      go_cut [6] (fun v wx => v = .string (strOfNums (n.sc ++ [58] ++ (if n.us = [] then [] else escT 0 n.us ++ [64]))) ∧ Hid (Below w3.heap.size w3 wx))
      case first =>
        cases hb : n.us.isEmpty with
        | true =>
          have hus := kd (show n.us = [] from List.isEmpty_iff.1 hb)
          clear hb
          go_wp2_with fail
          go_meet
          exact ⟨by rw [if_pos hus.out, List.append_nil], kd (Below.refl _ _)⟩
        | false =>
          have hus := kd (show ¬ n.us = [] from fun h => by rw [h] at hb; cases hb)
          have S1 := num_size (n.sc ++ [58])
          have L1 : (n.sc ++ [58]).length ≤ 4000001 := by rw [List.length_append, List.length_singleton]; omega
          have c1' : ¬ (9223372036854775807 < (strOfNums (n.sc ++ [58])).size + (strOfNums (escT 0 n.us)).size) := by rw [S1, SE]; omega
          have c2' : ¬ (9223372036854775807 < (strOfNums (n.sc ++ [58])).size + (strOfNums (escT 0 n.us)).size + 1) := by rw [S1, SE]; omega
          have JB := kd (show strOfNums (n.sc ++ [58]) ++ strOfNums (escT 0 n.us) ++ ⟨#[64]⟩ = strOfNums (n.sc ++ [58] ++ (escT 0 n.us ++ [64])) by rw [show (⟨#[64]⟩ : ByteArray) = strOfNums [64] by rfl, str_append, str_append, List.append_assoc (n.sc ++ [58])])
          clear hb
          generalize strOfNums (n.sc ++ [58]) = s6 at *
          go_wp2_with (go_at_call 17; refine (EU.out _).mono ?_; rintro _ w4 ⟨rfl, hb4⟩; have B5 := kd hb4)
          go_meet
          exact ⟨by rw [if_neg hus.out]; exact congrArg Value.string JB.out, B5⟩
      case rest =>
      obtain ⟨rfl, BA⟩ := hcut
      obtain ⟨acc1, ha1⟩ : ∃ acc1, n.sc ++ [58] ++ (if n.us = [] then [] else escT 0 n.us ++ [64]) = acc1 := ⟨_, rfl⟩
      have LA1 : acc1.length ≤ 20000000 := by
        rw [← ha1, List.length_append, List.length_append, List.length_singleton]
        split
        · rw [List.length_nil]; omega
        · rw [List.length_append, List.length_singleton]; omega
      rw [ha1] at PT
      rw [ha1]
      clear ha1 EU SE L2
      have R4 := kd (R3.out.below BA.out)
      clear k1 k2 k3 k4 k5
      have k0 : wc.cell? ⟨g, 0, none⟩ = some (.string (strOfNums n.sc)) := R4.out.cell 0
      have k1 : wc.cell? ⟨g, 1, none⟩ = some (.string (strOfNums n.us)) := R4.out.cell 1
      have k2 : wc.cell? ⟨g, 2, none⟩ = some (.string (strOfNums n.ho)) := R4.out.cell 2
      have k3 : wc.cell? ⟨g, 3, none⟩ = some (.int .i64 n.po) := R4.out.cell 3
      have k4 : wc.cell? ⟨g, 4, none⟩ = some (.slice D1 n.ps.length d1) := R4.out.cell 4
      have k5 : wc.cell? ⟨g, 5, none⟩ = some (.slice D2 n.hs.length d2) := R4.out.cell 5
      have SA1 := num_size acc1
      have cs2 : ¬ (9223372036854775807 < (strOfNums acc1).size + (strOfNums n.ho).size) := by rw [SA1, SH]; omega
      have JC := kd (show strOfNums acc1 ++ strOfNums n.ho = strOfNums (acc1 ++ n.ho) from str_append _ _)
      go_upto_if 43 with (fail)
      rw [JC.out]
      clear JC cs2
      have LA2 : (acc1 ++ n.ho).length ≤ 30000000 := by rw [List.length_append]; omega
      generalize acc1 ++ n.ho = acc2 at *
      go_cut [6] (fun v wx => v = .string (strOfNums (acc2 ++ (if n.po = 0 then [] else [58] ++ decL n.po))) ∧ Hid (Below w3.heap.size w3 wx))
      case first =>
        by_cases hpo : n.po = 0
        · have d0 : decide (0 < n.po) = false := by rw [hpo]; rfl
          rw [d0]
          replace hpo := kd hpo
          go_wp2_with fail
          go_meet
          exact ⟨by rw [if_pos hpo.out, List.append_nil], BA⟩
        · have d0 : decide (0 < n.po) = true := by simp; omega
          rw [d0]
          obtain ⟨p, hp⟩ : ∃ p : Nat, n.po = p := ⟨n.po.toNat, by omega⟩
          have p16 : p ≤ 65535 := by omega
          have DL := dec_len5 (po := (p : Int)) (by omega) (by omega)
          have DC := kd (fun w => rdecimal_any p w (by omega))
          rw [hp] at k3
          have HPO := kd hpo
          have HPP := kd hp
          have S2 := num_size acc2
          have SD := num_size (decL (p : Int))
          have c1' : ¬ (9223372036854775807 < (strOfNums acc2).size + 1) := by rw [S2]; omega
          have c2' : ¬ (9223372036854775807 < (strOfNums acc2).size + 1 + (strOfNums (decL (p : Int))).size) := by rw [S2, SD]; omega
          have JB := kd (show strOfNums acc2 ++ ⟨#[58]⟩ ++ strOfNums (decL (p : Int)) = strOfNums (acc2 ++ ([58] ++ decL (p : Int))) by rw [show (⟨#[58]⟩ : ByteArray) = strOfNums [58] by rfl, str_append, str_append, List.append_assoc])
          clear hpo hp
          generalize strOfNums acc2 = s6 at *
          generalize strOfNums (decL (p : Int)) = sd at *
          go_wp2_with (go_at_call 105; refine (DC.out _).mono ?_; rintro _ w4 ⟨rfl, hb4⟩; have B5 := kd (bthen BA.out hb4))
          go_meet
          exact ⟨by rw [if_neg HPO.out, HPP.out]; exact congrArg Value.string JB.out, B5⟩
      case rest =>
      obtain ⟨rfl, BC⟩ := hcut
      obtain ⟨acc3, ha3⟩ : ∃ acc3, acc2 ++ (if n.po = 0 then [] else [58] ++ decL n.po) = acc3 := ⟨_, rfl⟩
      have LA3 : acc3.length ≤ 40000000 := by
        rw [← ha3, List.length_append]
        split
        · rw [List.length_nil]; omega
        · obtain ⟨p, hp⟩ : ∃ p : Nat, n.po = p := ⟨n.po.toNat, by omega⟩
          rw [hp, List.length_append, List.length_singleton]
          have := dec_len5 (po := (p : Int)) (by omega) (by omega)
          omega
      rw [ha3] at PT
      rw [ha3]
      clear ha3
      have R5 := kd (R3.out.below BC.out)
      have SA3 := num_size acc3
      have c1' : ¬ (9223372036854775807 < (strOfNums acc3).size + (strOfNums (wrT 1 [59] [59] n.ps)).size) := by rw [SA3, SP]; omega
      have c2' : ¬ (9223372036854775807 < (strOfNums acc3).size + (strOfNums (wrT 1 [59] [59] n.ps)).size + (strOfNums (wrT 2 [63] [38] n.hs)).size) := by rw [SA3, SP, SHH]; omega
      have JD := kd (show strOfNums acc3 ++ strOfNums (wrT 1 [59] [59] n.ps) ++ strOfNums (wrT 2 [63] [38] n.hs) = strOfNums (printN n) by rw [← PT.out, str_append, str_append])
      have WPx := kd (fun (x : BW wc) => WP.out x.w (bthen BC.out x.h))
      have WHx := kd (fun (x : BW wc) => WH.out x.w (bthen BC.out x.h))
      have q4 : ∀ x : BW wc, x.w.cell? ⟨g, 4, none⟩ = some (.slice D1 n.ps.length d1) := fun x => R5.out.later x 4
      have q5 : ∀ x : BW wc, x.w.cell? ⟨g, 5, none⟩ = some (.slice D2 n.hs.length d2) := fun x => R5.out.later x 5
      clear k0 k1 k2 k3 k4 k5 R4 PT LP1 LH1 SS SU SH SP SHH SA1 SA3
      generalize strOfNums (wrT 1 [59] [59] n.ps) = wp at *
      generalize strOfNums (wrT 2 [63] [38] n.hs) = wh at *
      generalize strOfNums acc3 = s6 at *
      go_upto_region 12 with (fail)
      refine region_bw (by kernel_rfl) (by kernel_rfl) ?_
      repeat go_big_quiet_step (fail)
      go_big_quiet_step (exact calls_bw (WPx.out _))
      repeat go_big_quiet_step (fail)
      go_big_quiet_step (exact calls_bw (WHx.out _))
      repeat go_big_quiet_step (fail)
      refine wpQuiet_nil ?_
      rintro _ ⟨y, rfl⟩
      have B6 := kd (bthen B4.out (bthen BC.out y.h))
      clear q4 q5 WPx WP WHx WH
      generalize y.w = w6 at *
      go_wp2_with fail
      go_ret2
      exact ⟨B6.out, by rw [E.out, JD.out]; rfl⟩
end Go.Proofs.YthfonniieaiocaaGreatDoor
