/- Contract: the reference 07's fields. -/
import Derived.Test.YtfhbpgickkibmaaGreatDoorCu
import Derived.Test.YtfhbpgickkibmaaGreatDoorPf
namespace Go.Proofs.YtfhbpgickkibmaaGreatDoor
open Go.RowKit

def FldR (xs : List Int) (w : World) (e : Ending) (w' : World) : Prop := match fieldsL xs with
  | .error k => Below w.heap.size w w' ∧ e = .returned (.tuple #[.slice none 0 0, .int .u8 k])
  | .ok l => ∃ v, e = .returned (.tuple #[v, .int .u8 0]) ∧ RX w v (l.map prmOf) w'
theorem FldR.bad {xs : List Int} {w w' : World} {k : Int} (h : fieldsL xs = .error k) (hb : Below w.heap.size w w') : FldR xs w (.returned (.tuple #[.slice none 0 0, .int .u8 k])) w' := by
  unfold FldR; rw [h]; exact ⟨hb, rfl⟩
theorem FldR.ok {xs : List Int} {w w' : World} {l : List (List Int × List Int)} {v : Value} (h : fieldsL xs = .ok l) (hp : RX w v (l.map prmOf) w') : FldR xs w (.returned (.tuple #[v, .int .u8 0])) w' := by
  unfold FldR; rw [h]; exact ⟨v, rfl, hp⟩
theorem getP_getF {acc : List (List Int × List Int)} {nm : List Int} (h : ∀ q ∈ acc, lowS q.1 = q.1) (hn : lowS nm = nm) : getP (acc.map prmOf) nm = getF acc nm := by
  induction acc with
  | nil => rfl
  | cons q acc ih =>
    have ih := ih (fun r hr => h r (by simp [hr]))
    unfold getP getF at ih ⊢
    rw [List.map_cons, List.find?_cons, List.find?_cons, hn, show (prmOf q).n = q.1 from rfl, h q (by simp)]
    rw [hn] at ih
    cases (q.1 == nm) with
    | true => rfl
    | false => exact ih
theorem VX.base {T : TypeId} {sz : Nat} {w W wr : World} {v : Value} {n : Nat} {cs : List Value} (H : VX T sz W v n cs wr) (hb : Below w.heap.size w W) : VX T sz w v n cs wr := by
  refine ⟨⟨H.o.1, ?_⟩, bthen hb H.bw⟩
  rcases H.o.2 with h0 | ⟨g, cap, cur, h1, h2, h3⟩
  · exact .inl h0
  · exact .inr ⟨g, cap, cur, h1, Nat.le_trans hb.size h2, h3⟩
/-- What the loop over the pieces keeps of memory. -/
structure RM (W : World) (A : Option Addr) (ps : List (Nat × List Int)) (x : Value) (acc : List (List Int × List Int)) (wr : World) : Prop where
  v : RX W x (acc.map prmOf) wr
  rW : Rds W W.heap.size A (pcs ps)
theorem RM.r {W : World} {A : Option Addr} {ps : List (Nat × List Int)} {x : Value} {acc : List (List Int × List Int)} {wr : World} (h : RM W A ps x acc wr) : Rds wr W.heap.size A (pcs ps) := h.rW.below h.v.bw
theorem RM.below {W : World} {A : Option Addr} {ps : List (Nat × List Int)} {x : Value} {acc : List (List Int × List Int)} {wr w' : World} (h : RM W A ps x acc wr) (hb : Below wr.heap.size wr w') : RM W A ps x acc w' := ⟨h.v.step hb, h.rW⟩
def RIR (W : World) (A : Option Addr) (ps : List (Nat × List Int)) (FF : Except Int (List (List Int × List Int))) (n : Nat) (v7 v : Value) (wr : World) : Prop := ∃ (i : Nat) (acc : List (List Int × List Int)) (x : Value), i ≤ n ∧ x = v7 ∧ v = .int .i64 i ∧
  Hid (FF = addAll acc ((ps.map (·.2)).drop i) ∧ (∀ q ∈ acc, fldOK 4000000 q) ∧ acc.length ≤ i) ∧ Hid (RM W A ps x acc wr)
set_option maxRecDepth 100000 in
set_option maxHeartbeats 1000000 in
theorem reffields_any (s : ByteArray) (w : World) (hs : s.size ≤ 4000000) : Calls Tryz.prog 41 #[.string s] w (FldR (byteL s) w) := by
  have FE := Lib.hid (fieldsL_eq (byteL s))
  have BAD := Lib.hid (fun w' k h hb => FldR.bad (xs := byteL s) (w := w) (w' := w') (k := k) h hb)
  have OK := Lib.hid (fun w' l v h hp => FldR.ok (xs := byteL s) (w := w) (w' := w') (l := l) (v := v) h hp)
  generalize FldR (byteL s) w = PP at *
  have HB := Lib.hid ((byteL_by s).sub (trimB_sub (byteL s)))
  have TL : (trimB (byteL s)).length ≤ 4000000 := by have h1 := (trimB_sub (byteL s)).length_le; rw [byteL_len] at h1; omega
  go_enter Tryz.func41, Tryz.ntmps41
  go_wp2_with fail
  refine (reftrim_any s _ hs).mono ?_
  rintro e w1 ⟨rfl, hb1⟩
  have B1 := Lib.hid hb1; clear hb1
  have ZT : (strOfNums (trimB (byteL s))).size = (trimB (byteL s)).length := num_size _
  generalize trimB (byteL s) = T at *
  have BT := Lib.hid (byteL_str HB.out)
  generalize hK : fieldsL (byteL s) = FF at *
  clear hK
  generalize hTT : strOfNums T = t at *
  have HTT := Lib.hid hTT
  clear hTT
  have ZTH := Lib.hid ZT
  have zt1 : t.size ≤ T.length := by omega
  have zt2 : T.length ≤ t.size := by omega
  clear ZT
  by_cases h6 : t.size < 7
  · have hd : decide ((t.size : Int) < 7) = true := by simp; omega
    have E := Lib.hid (FE.out.trans (if_pos (.inl (by omega))))
    go_wp2_with fail
    first | exact BAD.out _ _ E.out B1.out | (go_ret2; exact BAD.out _ _ E.out B1.out)
  · have hd : decide ((t.size : Int) < 7) = false := by simp; omega
    have T6 : byteL (t.extract 0 6) = T.take 6 := by rw [take_extract, BT.out]
    go_wp2_with fail
    refine (reflower_any _ _ (by rw [ByteArray.size_extract]; omega)).mono ?_
    rintro e w2 ⟨rfl, hb2⟩
    have B2 := Lib.hid (bthen B1.out hb2); clear hb2 B1
    rw [T6]
    have BL := Lib.hid (lowS_by (HB.out.sub (List.take_sublist 6 T)))
    have DQ := Lib.hid (show (strOfNums (lowS (T.take 6))).toList = [100, 105, 103, 101, 115, 116] ↔ lowS (T.take 6) = DIGEST from lit_eq BL.out _)
    generalize lowS (T.take 6) = LW at *
    clear T6
    by_cases hD : LW = DIGEST
    · have q := DQ.out.2 hD
      have HD := Lib.hid hD
      clear hD
      have d6 := fun w => idx_str t (i := 6) (by omega) (z := (6 : Int)) rfl w
      have hx6 := HB.out _ (getD_mem (l := T) (i := 6) (by omega))
      rw [BT.out] at d6
      have FEB := Lib.hid (fun (h : isBlank (T.getD 6 0) = false) => FE.out.trans (if_pos (.inr (.inr h))))
      have FEG := Lib.hid (fun (h : isBlank (T.getD 6 0) = true) => FE.out.trans (if_neg (by
        rw [HD.out]
        rintro (h1 | h1 | h1)
        · omega
        · exact h1 rfl
        · rw [h] at h1; cases h1)))
      generalize T.getD 6 0 = x6 at *
      go_wp2_with fail
      refine (refblank_any x6 _ hx6.1 hx6.2).mono ?_
      rintro e w3 ⟨rfl, rfl⟩
      clear q
      cases h7 : isBlank x6 with
      | false =>
        have E := Lib.hid (FEB.out h7)
        clear h7
        go_wp2_with fail
        first | exact BAD.out _ _ E.out B2.out | (go_ret2; exact BAD.out _ _ E.out B2.out)
      | true =>
        have hT7 : 7 ≤ T.length := by omega
        have FE1 := Lib.hid (FEG.out h7)
        have B3 := B2
        clear h7 FE FEB FEG B2
        have T6 : byteL (t.extract 6 t.size) = T.drop 6 := by rw [drop_extract, BT.out]
        have Z6 : (t.extract 6 t.size).size ≤ 4000000 := by rw [ByteArray.size_extract]; omega
        have t6 : 6 ≤ t.size := by omega
        go_wp2_with fail
        refine (refsplitP_any _ _ Z6).mono ?_
        rintro e w4 ⟨v, rfl, hp⟩
        rw [T6] at hp ⊢
        have HP := Lib.hid hp
        have B4 := Lib.hid (bthen B3.out hp.bw); clear hp B3 T6 Z6
        have SO := Lib.hid (splitL_ok (T.drop 6) 44)
        generalize splitL (T.drop 6) 44 = S at *
        obtain ⟨ps, pl, er⟩ := S
        by_cases her : er = 0
        · subst her
          have FE2 := Lib.hid (show FF = addAll [] (ps.map (·.2)) from FE1.out.trans (if_neg (fun h => h rfl)))
          clear FE1
          obtain ⟨A, c, rfl, hnc, hR⟩ := HP.out.rds
          have RD := Lib.hid hR
          have hN : ps.length ≤ 4000001 := by
            have h1 := SO.out.2
            rw [List.length_drop] at h1
            dsimp only at h1
            omega
          have PS := Lib.hid (show ∀ p ∈ ps, By p.2 ∧ p.2.length ≤ 4000000 from fun p hp => by
            have h1 := (SO.out.1 p hp).trans (List.drop_sublist 6 T)
            exact ⟨HB.out.sub h1, by have := h1.length_le; omega⟩)
          clear hR HP SO
          generalize hn : ps.length = n at *
          have HN := Lib.hid hn
          clear hn
          have M0 := Lib.hid (show RM w4 A ps (.slice none 0 0) [] w4 from ⟨VX.nil _ _ _, RD.out⟩)
          go_wp2_with fail
          go_loopw [7, 8] (fun v7 v wr => RIR w4 A ps FF n v7 v wr) (fun _ v _ => n - (intOf v).toNat)
          case atStart => exact ⟨0, [], _, Nat.zero_le _, rfl, rfl, Lib.hid ⟨FE2.out, (fun q hq => by cases hq), Nat.zero_le _⟩, Lib.hid M0.out⟩
          case round =>
            clear M0
            obtain ⟨i, acc, x, hi, rfl, rfl, HA, HM⟩ := hrel
            by_cases hlt : i < n
            · obtain ⟨p, hp⟩ : ∃ p, ps[i]? = some p := ⟨_, List.getElem?_eq_getElem (by rw [HN.out]; exact hlt)⟩
              obtain ⟨hpb, hpl⟩ := PS.out p (List.mem_of_getElem? hp)
              have DT := Lib.hid (drop_text hp)
              obtain ⟨ab, ao, rfl, hab, hac⟩ := HM.out.r (by rw [pcs_len, HN.out]; omega)
              have c1 := hac _ _ (pcs_at hp 1 _ rfl)
              rw [← Nat.add_assoc] at c1
              have hd : decide (i < n) = true := by simp [hlt]
              have al := HA.out.2.2
              clear hac hab hp
              obtain ⟨p1, p2⟩ := p
              dsimp only at c1
              go_wp2_with fail
              clear c1
              refine (reffield_any _ _ (by rw [num_size]; exact hpl)).mono ?_
              rintro e w6 ⟨rfl, hb6⟩
              have M6 := Lib.hid (HM.out.below hb6)
              clear hb6 HM
              rw [byteL_str hpb]
              have RN := Lib.hid (Row.new w6 140 Z3)
              have BN := Lib.hid ((Below.refl w6.heap.size w6).alloc (Nat.le_refl _) (.cells Z3.toArray 140))
              cases hq : fldL p2 with
              | none =>
                have E := Lib.hid (show FF = .error 5 by rw [HA.out.1, DT.out]; exact addAll_no hq)
                rw [show rfldV none = .tuple #[.agg #[.string ⟨#[]⟩, .string ⟨#[]⟩, .bool false], .int .u8 5] from rfl]
                clear hq
                go_wp2_with (with_reducible refine wpList_storeR rfl 140 (.tmp 9) (.tmp 53) rfl RN.out Z3 rfl rfl (lenL3 _ _ _ _ _ _) (sizeL3 _ _ _) z3_one BN.out (Nat.le_refl _) ?_)
                intro w5 R5 B5 _
                have M7 := Lib.hid (M6.out.below B5.out)
                go_wp2_with fail
                first | exact BAD.out _ _ E.out (bthen B4.out M7.out.v.bw) | (go_ret2; exact BAD.out _ _ E.out (bthen B4.out M7.out.v.bw))
              | some q =>
                have QO := Lib.hid (fldL_ok hpb hq)
                obtain ⟨nm, vl⟩ := q
                rw [show rfldV (some (nm, vl)) = .tuple #[.agg #[.string (strOfNums nm), .string (strOfNums vl), .bool true], .int .u8 0] from rfl]
                go_wp2_with (with_reducible refine wpList_storeR rfl 140 (.tmp 9) (.tmp 53) rfl RN.out [.string (strOfNums nm), .string (strOfNums vl), .bool true] rfl rfl (lenL3 _ _ _ _ _ _) (sizeL3 _ _ _) (p3_one _ _ _) BN.out (Nat.le_refl _) ?_)
                intro w5 R5 B5 _
                have M7 := Lib.hid (M6.out.below B5.out)
                have c0 : w5.cell? ⟨w6.heap.size, 0, none⟩ = some (.string (strOfNums nm)) := R5.out.cell 0
                obtain ⟨A2, c2, hx2, _, hR2⟩ := M7.out.v.rds
                have RD2 := Lib.hid hR2
                have GE := Lib.hid (getP_getF (acc := acc) (nm := nm) (fun q hq => (HA.out.2.1 q hq).2.2.2.2) QO.out.2.2.2.2)
                have PB := Lib.hid (show ∀ p ∈ acc.map prmOf, prmBy p from fun p hp => by
                  obtain ⟨q, hq, rfl⟩ := List.mem_map.1 hp
                  obtain ⟨a1, a2, a3, a4, _⟩ := HA.out.2.1 q hq
                  exact ⟨a1, a2, a3, a4⟩)
                have XE := Lib.hid hx2
                clear hR2 M6 B5 RN BN hx2
                go_wp2_with fail
                clear c0
                rw [XE.out]
                refine (get_any A2 _ c2 (acc.map prmOf) (strOfNums nm) w5 RD2.out rfl PB.out (by rw [List.length_map]; omega) (by rw [num_size]; have := QO.out.2.2.1; simp only at this; omega)).mono ?_
                rintro e w7 ⟨rfl, hb7⟩
                rw [← XE.out]
                have M8 := Lib.hid (M7.out.below hb7)
                have R7 := Lib.hid (R5.out.below hb7)
                clear hb7 M7 R5 RD2 XE
                rw [byteL_str QO.out.1, GE.out]
                cases hg : getF acc nm with
                | some y =>
                  have E := Lib.hid (show FF = .error 7 by rw [HA.out.1, DT.out]; exact addAll_dup hq hg)
                  rw [show getV (some y) = .tuple #[.string (strOfNums y), .bool true] from rfl]
                  clear hq hg
                  go_wp2_with fail
                  first | exact BAD.out _ _ E.out (bthen B4.out M8.out.v.bw) | (go_ret2; exact BAD.out _ _ E.out (bthen B4.out M8.out.v.bw))
                | none =>
                  have E := Lib.hid (show FF = addAll (acc ++ [(nm, vl)]) ((ps.map (·.2)).drop (i + 1)) by rw [HA.out.1, DT.out]; exact addAll_new hq hg)
                  rw [show getV none = .tuple #[.string ⟨#[]⟩, .bool false] from rfl]
                  have OK8 := Lib.hid (show ∀ q ∈ acc ++ [(nm, vl)], fldOK 4000000 q from fun q hq2 => by
                    rcases List.mem_append.1 hq2 with h2 | h2
                    · exact HA.out.2.1 q h2
                    · rw [List.mem_singleton] at h2
                      subst h2
                      obtain ⟨a1, a2, a3, a4, a5⟩ := QO.out
                      exact ⟨a1, a2, by dsimp only at *; omega, by dsimp only at *; omega, a5⟩)
                  clear hq hg
                  go_wp2_with (first
                    | (with_reducible refine wpList_loadR rfl 140 (.tmp 9) rfl R7.out rfl Tryz.underlying140 rfl (sizeL3 _ _ _) ?_)
                    | (with_reducible refine wpList_pushR rfl (.tmp 66) (.tmp 68) rfl x (acc.map prmOf) rfl M8.out.v ⟨nm, vl, true⟩ rfl ?hbd ?_))
                  case hbd => rw [List.length_map]; omega
                  intro v9 w9 L9 E9 l9 M9
                  have M10 := Lib.hid (show RM w4 (some ⟨ab, ao, none⟩) ps v9 (acc ++ [(nm, vl)]) w9 from ⟨by
                    rw [List.map_append, show [(nm, vl)].map prmOf = [(⟨nm, vl, true⟩ : Prm)] from rfl, ← E9.out]
                    exact M9.out, M8.out.rW⟩)
                  go_wp2_with fail
                  go_roundw
                  case rel => exact ⟨i + 1, acc ++ [(nm, vl)], v9, by omega, rfl, by go_num, Lib.hid ⟨E.out, OK8.out, by simp; omega⟩, Lib.hid M10.out⟩
                  case measure => simp [intOf]; omega
            · obtain rfl : i = n := by omega
              have E := Lib.hid (show FF = .ok acc by
                have h1 := HA.out.1
                rw [List.drop_of_length_le (by rw [List.length_map, HN.out]; exact Nat.le_refl _)] at h1
                exact h1)
              go_wp2_with fail
              first | exact OK.out _ _ _ E.out (HM.out.v.base B4.out) | (go_ret2; exact OK.out _ _ _ E.out (HM.out.v.base B4.out))
        · have hb : (er != 0) = true := by simpa using her
          have E := Lib.hid (show FF = .error er from FE1.out.trans (if_pos her))
          clear her
          go_wp2_with fail
          first | exact BAD.out _ _ E.out B4.out | (go_ret2; exact BAD.out _ _ E.out B4.out)
    · have q := fun h => hD (DQ.out.1 h)
      have E := Lib.hid (FE.out.trans (if_pos (.inr (.inl hD))))
      clear hD
      go_wp2_with fail
      first | exact BAD.out _ _ E.out B2.out | (go_ret2; exact BAD.out _ _ E.out B2.out)
end Go.Proofs.YtfhbpgickkibmaaGreatDoor
