/- Contracts: auth.fields and the function that it returns. Contract: the reference 07's fields. -/
import Derived.Test.YtfhbpgickkibmaaGreatDoorCt
import Derived.Test.YtfhbpgickkibmaaGreatDoorPe
import Derived.Test.YtfhbpgickkibmaaGreatDoorPf
namespace Go.Proofs.YtfhbpgickkibmaaGreatDoor
open Go.RowKit

theorem findw_any (w : World) (mb cb : Nat) (l : List (List Int × List Int)) (nm : List Int) (hN : By nm) (hc : w.cell? ⟨cb, 0, none⟩ = some (.map (some mb))) (hm : MapIs w mb l) :
    Calls Tryz.prog 76 #[.string (strOfNums nm), .pointer (some ⟨cb, 0, none⟩)] w fun e w' => e = .returned (getV (getF l nm)) ∧ w = w' := by
  rcases look_any hm nm hN with ⟨h1, h2⟩ | ⟨v, h1, h2⟩
  · have G := Lib.hid h1
    clear h1 hm
    go_enter Tryz.func76, Tryz.ntmps76
    go_wp2_with fail
    go_ret2
    exact ⟨by rw [G.out]; rfl, rfl⟩
  · have G := Lib.hid h1
    clear h1 hm
    go_enter Tryz.func76, Tryz.ntmps76
    go_wp2_with fail
    go_ret2
    exact ⟨by rw [G.out]; rfl, rfl⟩
/-- A slice that the call made reads as its cells. -/
theorem VX.rds {T : TypeId} {sz : Nat} {w wr : World} {v : Value} {n : Nat} {cs : List Value} (H : VX T sz w v n cs wr) : ∃ A c, v = .slice A n c ∧ n ≤ c ∧ Rds wr wr.heap.size A cs := by
  rcases H.form with ⟨rfl, rfl, rfl⟩ | ⟨g, cap, rfl, hc, _, hg, hcell⟩
  · exact ⟨none, 0, rfl, Nat.le_refl _, fun h => absurd h (by simp)⟩
  · exact ⟨_, cap, rfl, hc, fun _ => ⟨g, 0, rfl, hg, fun j u hu => by rw [Nat.zero_add]; exact hcell j u hu⟩⟩
theorem Rds.range {w : World} {B : Nat} {b o : Nat} {cs : List Value} (h : ∀ j u, cs[j]? = some u → w.cell? ⟨b, o + j, none⟩ = some u) (k : Nat) (us : List Value) (hu : ∀ j u, us[j]? = some u → cs[k + j]? = some u) : w.rangeAt b (o + k) us := fun j u hj => by
  rw [Nat.add_assoc]
  exact h _ _ (hu j u hj)
theorem pcs_at {ps : List (Nat × List Int)} {k : Nat} {p : Nat × List Int} (h : ps[k]? = some p) : ∀ j u, [Value.int .i64 (p.1 : Int), .string (strOfNums p.2)][j]? = some u → (pcs ps)[k * 2 + j]? = some u := fun j u hu => by
  have hj : j < 2 := (List.getElem?_eq_some_iff.1 hu).1
  rw [← hu]
  exact flat_at (fun p : Nat × List Int => [Value.int .i64 (p.1 : Int), .string (strOfNums p.2)]) 2 (fun _ => rfl) ps k j p h hj
theorem sizeL2 (a b : Value) : (Tryz.prog.info? 133).map (·.size) = some [a, b].length := sizeP
theorem lenL2 (a b c d : Value) : [a, b].length = [c, d].length := rfl
theorem p2_one (a : Int) (b : ByteArray) : ∀ u ∈ [Value.int .i64 a, .string b], u.oneCell' = true := fun u hu => by
  simp at hu
  rcases hu with rfl | rfl <;> rfl
theorem lit_eq {L : List Int} (hL : By L) (u : List UInt8) : (strOfNums L).toList = u ↔ L = bl u := by
  rw [ByteArray.toList_eq]
  constructor
  · intro h
    rw [← byteL_str hL, byteL_bl, h]
  · rintro rfl
    apply bl_inj
    rw [bl_strOfNums (bl_by u)]
def FldP (xs : List Int) (w : World) (e : Ending) (w' : World) : Prop := Below w.heap.size w w' ∧ match fieldsL xs with
  | .error k => e = .returned (.tuple #[.nilFunc, .int .u8 k])
  | .ok l => ∃ cb mb, e = .returned (.tuple #[.func (.func 76) #[] #[.pointer (some ⟨cb, 0, none⟩)], .int .u8 0]) ∧ w'.cell? ⟨cb, 0, none⟩ = some (.map (some mb)) ∧ cb < w'.heap.size ∧ MapIs w' mb l
theorem FldP.bad {xs : List Int} {w w' : World} {k : Int} (h : fieldsL xs = .error k) (hb : Below w.heap.size w w') : FldP xs w (.returned (.tuple #[.nilFunc, .int .u8 k])) w' := ⟨hb, by rw [h]⟩
theorem FldP.ok {xs : List Int} {w w' : World} {l : List (List Int × List Int)} {cb mb : Nat} (h : fieldsL xs = .ok l) (hb : Below w.heap.size w w') (hc : w'.cell? ⟨cb, 0, none⟩ = some (.map (some mb))) (hl : cb < w'.heap.size) (hm : MapIs w' mb l) :
    FldP xs w (.returned (.tuple #[.func (.func 76) #[] #[.pointer (some ⟨cb, 0, none⟩)], .int .u8 0])) w' := ⟨hb, by rw [h]; exact ⟨cb, mb, rfl, hc, hl, hm⟩⟩
theorem find_any_iff (acc : List (List Int × List Int)) (k : List Int) : acc.any (fun q => q.1 == k) = (getF acc k).isSome := by
  unfold getF
  rw [Option.isSome_map, Bool.eq_iff_iff, List.any_eq_true, List.find?_isSome]
theorem addAll_no {acc : List (List Int × List Int)} {p : List Int} {r : List (List Int)} (h : fldL p = none) : addAll acc (p :: r) = .error 5 := by
  rw [addAll, addF, h]
theorem addAll_dup {acc : List (List Int × List Int)} {p : List Int} {r : List (List Int)} {q : List Int × List Int} {v : List Int} (h : fldL p = some q) (h2 : getF acc q.1 = some v) : addAll acc (p :: r) = .error 7 := by
  rw [addAll, addF, h]
  dsimp only
  rw [find_any_iff, h2]
  rfl
theorem addAll_new {acc : List (List Int × List Int)} {p : List Int} {r : List (List Int)} {q : List Int × List Int} (h : fldL p = some q) (h2 : getF acc q.1 = none) : addAll acc (p :: r) = addAll (acc ++ [q]) r := by
  rw [addAll, addF, h]
  dsimp only
  rw [find_any_iff, h2]
  rfl
theorem getF_find {acc : List (List Int × List Int)} {k : List Int} (h : getF acc k = none) : acc.find? (fun q => q.1 == k) = none := by
  unfold getF at h
  rwa [Option.map_eq_none_iff] at h
/-- What the loop over the pieces keeps of memory. -/
structure FM (w : World) (cb mb : Nat) (A : Option Addr) (ps : List (Nat × List Int)) (acc : List (List Int × List Int)) (wr : World) : Prop where
  bw : Below w.heap.size w wr
  c : Row wr cb 131 [.map (some mb)]
  m : MapIs wr mb acc
  r : Rds wr mb A (pcs ps)
  lt : mb < cb
  le : w.heap.size ≤ mb
theorem FM.below {w : World} {cb mb : Nat} {A : Option Addr} {ps : List (Nat × List Int)} {acc : List (List Int × List Int)} {wr w' : World} (h : FM w cb mb A ps acc wr) (hb : Below wr.heap.size wr w') : FM w cb mb A ps acc w' :=
  ⟨bthen h.bw hb, h.c.below hb, h.m.below hb, h.r.below (hb.mono (Nat.le_of_lt h.m.lt)), h.lt, h.le⟩
theorem FM.insert {w : World} {cb mb : Nat} {A : Option Addr} {ps : List (Nat × List Int)} {acc acc' : List (List Int × List Int)} {wr w' : World} (h : FM w cb mb A ps acc wr) (hm : MapIs w' mb acc') (hg : wr.grownBy w' (some mb)) : FM w cb mb A ps acc' w' :=
  ⟨h.bw.grown hg h.bw.size (fun k hk => by cases hk; exact h.le), h.c.heap (hg.block cb h.c.lt (fun e => by have := h.lt; cases e; omega)), hm,
    h.r.keep (fun p hp => World.cell?_of_block (hg.block p.block (Nat.lt_trans hp h.m.lt) (fun e => by cases e; omega))), h.lt, h.le⟩
def FIR (w : World) (cb mb : Nat) (A : Option Addr) (ps : List (Nat × List Int)) (FF : Except Int (List (List Int × List Int))) (n : Nat) (v : Value) (wr : World) : Prop := ∃ (i : Nat) (acc : List (List Int × List Int)), i ≤ n ∧ v = .int .i64 i ∧
  Hid (FF = addAll acc ((ps.map (·.2)).drop i) ∧ ∀ q ∈ acc, fldOK 4000000 q) ∧ Hid (FM w cb mb A ps acc wr)
theorem drop_text {ps : List (Nat × List Int)} {i : Nat} {p : Nat × List Int} (h : ps[i]? = some p) : (ps.map (·.2)).drop i = p.2 :: (ps.map (·.2)).drop (i + 1) := by
  obtain ⟨hl, rfl⟩ := List.getElem?_eq_some_iff.1 h
  rw [List.drop_eq_getElem_cons (by simpa using hl), List.getElem_map]
theorem fieldsL_eq (xs : List Int) : fieldsL xs = if (trimB xs).length < 7 ∨ lowS ((trimB xs).take 6) ≠ DIGEST ∨ isBlank ((trimB xs).getD 6 0) = false then .error 15
  else if (splitL ((trimB xs).drop 6) 44).2.2 ≠ 0 then .error (splitL ((trimB xs).drop 6) 44).2.2
  else addAll [] ((splitL ((trimB xs).drop 6) 44).1.map (·.2)) := rfl
set_option maxRecDepth 100000 in
set_option maxHeartbeats 1000000 in
theorem fields_any (s : ByteArray) (w : World) (hs : s.size ≤ 4000000) : Calls Tryz.prog 37 #[.string s] w (FldP (byteL s) w) := by
  have FE := Lib.hid (fieldsL_eq (byteL s))
  have BAD := Lib.hid (fun w' k h hb => FldP.bad (xs := byteL s) (w := w) (w' := w') (k := k) h hb)
  have OK := Lib.hid (fun w' l cb mb h hb hc hl hm => FldP.ok (xs := byteL s) (w := w) (w' := w') (l := l) (cb := cb) (mb := mb) h hb hc hl hm)
  generalize FldP (byteL s) w = PP at *
  have HB := Lib.hid ((byteL_by s).sub (trimB_sub (byteL s)))
  have TL : (trimB (byteL s)).length ≤ 4000000 := by have h1 := (trimB_sub (byteL s)).length_le; rw [byteL_len] at h1; omega
  go_enter Tryz.func37, Tryz.ntmps37
  go_wp2_with fail
  refine (trim_any s _ hs).mono ?_
  rintro e w1 ⟨rfl, hb1⟩
  have B1 := Lib.hid hb1; clear hb1
  have ZT : (strOfNums (trimB (byteL s))).size = (trimB (byteL s)).length := num_size _
  generalize trimB (byteL s) = T at *
  have BT := Lib.hid (byteL_str HB.out)
  generalize hK : fieldsL (byteL s) = FF at *
  clear hK
  generalize hTT : strOfNums T = t at *
  have HTT := Lib.hid hTT
  clear hTT
  have ZTH := Lib.hid ZT
  have zt1 : t.size ≤ T.length := by omega
  have zt2 : T.length ≤ t.size := by omega
  clear ZT
  by_cases h6 : t.size < 6
  · have hd : decide ((t.size : Int) < 6) = true := by simp; omega
    have E := Lib.hid (FE.out.trans (if_pos (.inl (by omega))))
    go_wp2_with fail
    first | exact BAD.out _ _ E.out B1.out | (go_ret2; exact BAD.out _ _ E.out B1.out)
  · have hd : decide ((t.size : Int) < 6) = false := by simp; omega
    have T6 : byteL (t.extract 0 6) = T.take 6 := by rw [take_extract, BT.out]
    go_wp2_with fail
    refine (lower_any _ _ (by rw [ByteArray.size_extract]; omega)).mono ?_
    rintro e w2 ⟨rfl, hb2⟩
    have B2 := Lib.hid (bthen B1.out hb2); clear hb2 B1
    rw [T6]
    have BL := Lib.hid (lowS_by (HB.out.sub (List.take_sublist 6 T)))
    have DQ := Lib.hid (show (strOfNums (lowS (T.take 6))).toList = [100, 105, 103, 101, 115, 116] ↔ lowS (T.take 6) = DIGEST from lit_eq BL.out _)
    generalize lowS (T.take 6) = LW at *
    clear T6
    by_cases hD : LW = DIGEST
    · have q := DQ.out.2 hD
      have HD := Lib.hid hD
      clear hD
      obtain ⟨k, hk⟩ : ∃ k, skipTo isBlank (byteL t) 6 = k := ⟨_, rfl⟩
      have hk2 : skipTo isBlank T 6 = k := by rw [← hk, BT.out]
      have HK := Lib.hid hk
      go_wp2_with fail
      refine (blanksN t _ 6 _ k rfl (by omega) HK.out (by omega)).mono ?_
      rintro e w3 ⟨rfl, hb3⟩
      have B3 := Lib.hid (bthen B2.out hb3); clear hb3 B2 hk
      clear q
      by_cases h7 : T.length < 7 ∨ isBlank (T.getD 6 0) = false
      · have E := Lib.hid (FE.out.trans (if_pos (by rcases h7 with h | h; exact .inl h; exact .inr (.inr h))))
        have hk6 : k = 6 := by
          rcases h7 with h | h
          · rw [← hk2, skip_end (by have := ZTH.out; omega)]
          · rcases Nat.lt_or_ge 6 T.length with h8 | h8
            · rw [← hk2, skip_no h8 h]
            · rw [← hk2, skip_end h8]
        subst hk6
        clear h7 hk2
        go_wp2_with fail
        first | exact BAD.out _ _ E.out B3.out | (go_ret2; exact BAD.out _ _ E.out B3.out)
      · have hT7 : 7 ≤ T.length := by omega
        have hB6 : isBlank (T.getD 6 0) = true := by
          cases hb : isBlank (T.getD 6 0) with
          | true => rfl
          | false => exact absurd (.inr hb) h7
        have hk7 : k ≠ 6 := by
          have h1 := skip_yes (p := isBlank) (xs := T) (i := 6) (by omega) hB6
          have h2 := skip_ge isBlank T (6 + 1)
          omega
        have FE1 := Lib.hid (FE.out.trans (if_neg (by rw [HD.out]; intro h; rcases h with h | h | h; exact h7 (.inl h); exact h rfl; exact h7 (.inr h))))
        have hbk : ((k : Int) == 6) = false := by simp; omega
        clear h7 hB6 hk7 hk2 FE HK
        have T6 : byteL (t.extract 6 t.size) = T.drop 6 := by rw [drop_extract, BT.out]
        have Z6 : (t.extract 6 t.size).size ≤ 4000000 := by rw [ByteArray.size_extract]; omega
        have t6 : 6 ≤ t.size := by omega
        go_wp2_with fail
        refine (splitP_any _ _ Z6).mono ?_
        rintro e w4 ⟨v, rfl, hp⟩
        rw [T6] at hp ⊢
        have HP := Lib.hid hp
        have B4 := Lib.hid (bthen B3.out hp.bw); clear hp B3 T6 Z6
        have SO := Lib.hid (splitL_ok (T.drop 6) 44)
        generalize splitL (T.drop 6) 44 = S at *
        obtain ⟨ps, pl, er⟩ := S
        by_cases her : er = 0
        · subst her
          have FE2 := Lib.hid (show FF = addAll [] (ps.map (·.2)) from FE1.out.trans (if_neg (fun h => h rfl)))
          clear FE1
          obtain ⟨A, c, rfl, hnc, hR⟩ := HP.out.rds
          have RD := Lib.hid hR
          have hN : ps.length ≤ 4000001 := by
            have h1 := SO.out.2
            rw [List.length_drop] at h1
            dsimp only at h1
            omega
          have PS := Lib.hid (show ∀ p ∈ ps, By p.2 ∧ p.2.length ≤ 4000000 from fun p hp => by
            have h1 := (SO.out.1 p hp).trans (List.drop_sublist 6 T)
            exact ⟨HB.out.sub h1, by have := h1.length_le; omega⟩)
          clear hR HP SO
          generalize hn : ps.length = n at *
          have HN := Lib.hid hn
          clear hn
          have hmm := @run_makeMap Tryz.prog
          have M0 := Lib.hid (show FM w (w4.heap.size + 1) w4.heap.size A ps [] ((w4.alloc (.map #[] 0)).alloc (.cells #[.map (some w4.heap.size)] 131)) from by
            have hb0 : Below w4.heap.size w4 (w4.alloc (.map #[] 0)) := (Below.refl _ _).alloc (Nat.le_refl _) _
            have hb1 : Below (w4.alloc (.map #[] 0)).heap.size (w4.alloc (.map #[] 0)) ((w4.alloc (.map #[] 0)).alloc (.cells #[.map (some w4.heap.size)] 131)) := (Below.refl _ _).alloc (Nat.le_refl _) _
            have hr := Row.new (w4.alloc (.map #[] 0)) 131 [.map (some w4.heap.size)]
            rw [show (w4.alloc (.map #[] 0)).heap.size = w4.heap.size + 1 by simp] at hr
            exact ⟨bthen (bthen B4.out hb0) hb1, hr, (MapIs.new w4).below hb1, RD.out.below (bthen hb0 hb1), Nat.lt_succ_self _, B4.out.size⟩)
          have hmb : w4.heap.size < w4.heap.size + 1 := Nat.lt_succ_self _
          go_wp2_with fail
          clear hmm
          go_loopw [46] (fun v wr => FIR w (w4.heap.size + 1) w4.heap.size A ps FF n v wr) (fun v _ => n - (intOf v).toNat)
          case atStart => exact ⟨0, [], Nat.zero_le _, rfl, Lib.hid ⟨FE2.out, fun q hq => by cases hq⟩, Lib.hid M0.out⟩
          case round =>
            clear M0
            obtain ⟨i, acc, hi, rfl, HA, HM⟩ := hrel
            by_cases hlt : i < n
            · obtain ⟨p, hp⟩ : ∃ p, ps[i]? = some p := ⟨_, List.getElem?_eq_getElem (by rw [HN.out]; exact hlt)⟩
              obtain ⟨hpb, hpl⟩ := PS.out p (List.mem_of_getElem? hp)
              have DT := Lib.hid (drop_text hp)
              obtain ⟨ab, ao, rfl, hab, hac⟩ := HM.out.r (by rw [pcs_len, HN.out]; omega)
              have RG := Lib.hid (Rds.range (B := w4.heap.size) hac (i * 2) _ (pcs_at hp))
              have hd : decide (i < n) = true := by simp [hlt]
              have RN := Lib.hid (Row.new wr 133 [.int .i64 0, .string ⟨#[]⟩])
              have BN := Lib.hid ((Below.refl wr.heap.size wr).alloc (Nat.le_refl _) (.cells #[.int .i64 0, .string ⟨#[]⟩] 133))
              clear hac hab hp
              obtain ⟨p1, p2⟩ := p
              go_wp2_with (first
                | (with_reducible refine wpList_load_mid rfl 133 (.tmp 48) rfl ab (ao + i * 2) rfl [.int .i64 (p1 : Int), .string (strOfNums p2)] _ RG.out Tryz.underlying133 rfl (sizeL2 _ _) ?_)
                | (with_reducible refine wpList_storeR rfl 133 (.tmp 10) (.tmp 49) rfl RN.out [.int .i64 (p1 : Int), .string (strOfNums p2)] rfl rfl (lenL2 _ _ _ _) (sizeL2 _ _) (p2_one _ _) BN.out (Nat.le_refl _) ?_))
              intro w5 R5 B5 _
              have M5 := Lib.hid (HM.out.below B5.out)
              have c1 : w5.cell? ⟨wr.heap.size, 1, none⟩ = some (.string (strOfNums p2)) := R5.out.cell 1
              clear RN BN HM RG
              go_wp2_with fail
              clear c1
              refine (readField_any _ _ (by rw [num_size]; exact hpl)).mono ?_
              rintro e w6 ⟨rfl, hb6⟩
              have M6 := Lib.hid (M5.out.below hb6)
              clear hb6 M5 R5 B5
              rw [byteL_str hpb]
              cases hq : fldL p2 with
              | none =>
                have E := Lib.hid (show FF = .error 5 by rw [HA.out.1, DT.out]; exact addAll_no hq)
                rw [show fldV none = .tuple #[.string ⟨#[]⟩, .string ⟨#[]⟩, .bool false] from rfl]
                clear hq
                go_wp2_with fail
                first | exact BAD.out _ _ E.out M6.out.bw | (go_ret2; exact BAD.out _ _ E.out M6.out.bw)
              | some q =>
                have QO := Lib.hid (fldL_ok hpb hq)
                obtain ⟨nm, vl⟩ := q
                rw [show fldV (some (nm, vl)) = .tuple #[.string (strOfNums nm), .string (strOfNums vl), .bool true] from rfl]
                have hcm : w6.cell? ⟨w4.heap.size + 1, 0, none⟩ = some (.map (some w4.heap.size)) := M6.out.c.cell 0
                go_wp2_with fail
                refine (findw_any w6 w4.heap.size (w4.heap.size + 1) acc nm QO.out.1 hcm M6.out.m).mono ?_
                rintro e w7 ⟨rfl, rfl⟩
                cases hg : getF acc nm with
                | some x =>
                  have E := Lib.hid (show FF = .error 7 by rw [HA.out.1, DT.out]; exact addAll_dup hq hg)
                  rw [show getV (some x) = .tuple #[.string (strOfNums x), .bool true] from rfl]
                  clear hq hg hcm
                  go_wp2_with fail
                  first | exact BAD.out _ _ E.out M6.out.bw | (go_ret2; exact BAD.out _ _ E.out M6.out.bw)
                | none =>
                  have E := Lib.hid (show FF = addAll (acc ++ [(nm, vl)]) ((ps.map (·.2)).drop (i + 1)) by rw [HA.out.1, DT.out]; exact addAll_new hq hg)
                  rw [show getV none = .tuple #[.string ⟨#[]⟩, .bool false] from rfl]
                  obtain ⟨w8, hrun, hm8, hg8⟩ := map_insert M6.out.m nm vl QO.out.1 (getF_find hg)
                  have M8 := Lib.hid (M6.out.insert hm8 hg8)
                  have OK8 := Lib.hid (show ∀ q ∈ acc ++ [(nm, vl)], fldOK 4000000 q from fun q hq2 => by
                    rcases List.mem_append.1 hq2 with h2 | h2
                    · exact HA.out.2 q h2
                    · rw [List.mem_singleton] at h2
                      subst h2
                      obtain ⟨a1, a2, a3, a4, a5⟩ := QO.out
                      exact ⟨a1, a2, by dsimp only at *; omega, by dsimp only at *; omega, a5⟩)
                  clear hq hg hm8 hg8
                  go_wp2_with fail
                  go_roundw
                  case rel => exact ⟨i + 1, acc ++ [(nm, vl)], by omega, by go_num, Lib.hid ⟨E.out, OK8.out⟩, Lib.hid M8.out⟩
                  case measure => simp [intOf]; omega
            · obtain rfl : i = n := by omega
              have E := Lib.hid (show FF = .ok acc by
                have h1 := HA.out.1
                rw [List.drop_of_length_le (by rw [List.length_map, HN.out]; exact Nat.le_refl _)] at h1
                exact h1)
              have hcl := HM.out.c.lt
              go_wp2_with fail
              first | exact OK.out _ _ _ _ E.out HM.out.bw (HM.out.c.cell 0) hcl HM.out.m | (go_ret2; exact OK.out _ _ _ _ E.out HM.out.bw (HM.out.c.cell 0) hcl HM.out.m)
        · have hb : (er != 0) = true := by simpa using her
          have E := Lib.hid (show FF = .error er from FE1.out.trans (if_pos her))
          clear her
          go_wp2_with fail
          first | exact BAD.out _ _ E.out B4.out | (go_ret2; exact BAD.out _ _ E.out B4.out)
    · have q := fun h => hD (DQ.out.1 h)
      have E := Lib.hid (FE.out.trans (if_pos (.inr (.inl hD))))
      clear hD
      go_wp2_with fail
      first | exact BAD.out _ _ E.out B2.out | (go_ret2; exact BAD.out _ _ E.out B2.out)
end Go.Proofs.YtfhbpgickkibmaaGreatDoor
namespace Go.Proofs.YtfhbpgickkibmaaGreatDoor
open Go.RowKit

def FldR (xs : List Int) (w : World) (e : Ending) (w' : World) : Prop := match fieldsL xs with
  | .error k => Below w.heap.size w w' ∧ e = .returned (.tuple #[.slice none 0 0, .int .u8 k])
  | .ok l => ∃ v, e = .returned (.tuple #[v, .int .u8 0]) ∧ RX w v (l.map prmOf) w'
theorem FldR.bad {xs : List Int} {w w' : World} {k : Int} (h : fieldsL xs = .error k) (hb : Below w.heap.size w w') : FldR xs w (.returned (.tuple #[.slice none 0 0, .int .u8 k])) w' := by
  unfold FldR; rw [h]; exact ⟨hb, rfl⟩
theorem FldR.ok {xs : List Int} {w w' : World} {l : List (List Int × List Int)} {v : Value} (h : fieldsL xs = .ok l) (hp : RX w v (l.map prmOf) w') : FldR xs w (.returned (.tuple #[v, .int .u8 0])) w' := by
  unfold FldR; rw [h]; exact ⟨v, rfl, hp⟩
theorem VX.base {T : TypeId} {sz : Nat} {w W wr : World} {v : Value} {n : Nat} {cs : List Value} (H : VX T sz W v n cs wr) (hb : Below w.heap.size w W) : VX T sz w v n cs wr := by
  refine ⟨⟨H.o.1, ?_⟩, bthen hb H.bw⟩
  rcases H.o.2 with h0 | ⟨g, cap, cur, h1, h2, h3⟩
  · exact .inl h0
  · exact .inr ⟨g, cap, cur, h1, Nat.le_trans hb.size h2, h3⟩
/-- What the loop over the pieces keeps of memory. -/
structure RM (W : World) (A : Option Addr) (ps : List (Nat × List Int)) (x : Value) (acc : List (List Int × List Int)) (wr : World) : Prop where
  v : RX W x (acc.map prmOf) wr
  rW : Rds W W.heap.size A (pcs ps)
theorem RM.r {W : World} {A : Option Addr} {ps : List (Nat × List Int)} {x : Value} {acc : List (List Int × List Int)} {wr : World} (h : RM W A ps x acc wr) : Rds wr W.heap.size A (pcs ps) := h.rW.below h.v.bw
theorem RM.below {W : World} {A : Option Addr} {ps : List (Nat × List Int)} {x : Value} {acc : List (List Int × List Int)} {wr w' : World} (h : RM W A ps x acc wr) (hb : Below wr.heap.size wr w') : RM W A ps x acc w' := ⟨h.v.step hb, h.rW⟩
def RIR (W : World) (A : Option Addr) (ps : List (Nat × List Int)) (FF : Except Int (List (List Int × List Int))) (n : Nat) (v7 v : Value) (wr : World) : Prop := ∃ (i : Nat) (acc : List (List Int × List Int)) (x : Value), i ≤ n ∧ x = v7 ∧ v = .int .i64 i ∧
  Hid (FF = addAll acc ((ps.map (·.2)).drop i) ∧ (∀ q ∈ acc, fldOK 4000000 q) ∧ acc.length ≤ i) ∧ Hid (RM W A ps x acc wr)
end Go.Proofs.YtfhbpgickkibmaaGreatDoor
