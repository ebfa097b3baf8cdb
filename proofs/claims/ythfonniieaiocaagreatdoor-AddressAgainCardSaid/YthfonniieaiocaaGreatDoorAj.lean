/- Contracts of header: lowerByte, upperByte, longName, eachByte with both of its functions. The contract of header's Canon. Contracts: message's named, the search of the first header of a name, Get. Contracts: address's holds, room; Params, where the text has no bracket. Plain: what listed and Params leave; the slice of parameters kept beside the cursor. -/
import Derived.Test.YthfonniieaiocaaGreatDoorCc
import Derived.Test.YthfonniieaiocaaGreatDoorAc
import Derived.Test.YthfonniieaiocaaGreatDoorQd
import Derived.Test.YthfonniieaiocaaGreatDoorAb
set_option linter.unusedVariables false
set_option linter.unusedSimpArgs false
namespace Go.Proofs.YthfonniieaiocaaGreatDoor
open Go.RowKit

def capK (xs : List Int) (k : Nat) : List Int := capL (xs.take k) ++ xs.drop k
theorem capK_len (xs : List Int) (k : Nat) : (capK xs k).length = xs.length := by
  unfold capK; rw [List.length_append, capL_len, List.length_take, List.length_drop]; omega
theorem capK_set {xs : List Int} {k : Nat} (h : k < xs.length) : (capK xs k).set k (capC (capF (xs.take k)).2 (xs.getD k 0)) = capK xs (k + 1) := by
  unfold capK
  rw [List.set_append_right _ _ (by rw [capL_len, List.length_take]; omega), capL_len, List.length_take, show k - min k xs.length = 0 by omega, drop_consI xs h, List.set_cons_zero, take_snocI xs h]
  unfold capL
  rw [capF_snoc]
  simp [capStep]
theorem capF_next {xs : List Int} {k : Nat} (h : k < xs.length) : (capF (xs.take (k + 1))).2 = (capC (capF (xs.take k)).2 (xs.getD k 0) == 45) := by rw [take_snocI xs h, capF_snoc]; rfl
theorem grown_set {w wr : World} {r : Option Nat} {p : Addr} {u : Value} (h : w.grownBy wr r) (hp : r = some p.block ∨ w.heap.size ≤ p.block) : w.grownBy (wr.setCell p u) r := by
  refine ⟨h.os, h.tape, h.output, by simpa [World.setCell] using h.size, fun k hk hr => ?_⟩
  have hne : k ≠ p.block := by
    rintro rfl
    rcases hp with h1 | h1
    · exact hr h1.symm
    · exact absurd h1 (Nat.not_le.2 hk)
  rw [Below.heap_setCell wr p u k hne]
  exact h.block k hk hr
theorem BR.other {w : World} {b : Nat} {xs : List Int} (h : BR w b xs) {p : Addr} (hp : p.block ≠ b) (u : Value) : BR (w.setCell p u) b xs :=
  ⟨by simpa [World.setCell] using h.lt, fun j x hx => by
    rw [World.cell?_setCell_other _ _ _ _ (by intro e; apply hp; rw [e])]
    exact h.c j x hx, fun j hj => by rw [World.frozen?_setCell]; exact h.f j hj⟩
structure CPX (w : World) (cb : Nat) (xs : List Int) (k : Nat) (wr : World) : Prop where
  r : BR wr w.heap.size (capK xs k)
  c : wr.cell? ⟨cb, 0, none⟩ = some (.bool (capF (xs.take k)).2)
  f : wr.frozen? ⟨cb, 0, none⟩ = false
  g : w.grownBy wr (some cb)
theorem CPX.step {w wr : World} {cb : Nat} {xs : List Int} {k : Nat} (H : CPX w cb xs k wr) (hk : k < xs.length) (hcb : cb < w.heap.size) :
    CPX w cb xs (k + 1) ((wr.setCell ⟨cb, 0, none⟩ (.bool (capC (capF (xs.take k)).2 (xs.getD k 0) == 45))).setCell ⟨w.heap.size, k, none⟩ (.int .u8 (capC (capF (xs.take k)).2 (xs.getD k 0)))) := by
  refine ⟨?_, ?_, ?_, ?_⟩
  · rw [← capK_set hk]
    exact (H.r.other (p := ⟨cb, 0, none⟩) (Nat.ne_of_lt hcb) _).set (by rw [capK_len]; exact hk) _
  · rw [World.cell?_setCell_other _ _ _ _ (by intro e; injection e with e1; exact absurd e1 (Nat.ne_of_gt hcb)), capF_next hk]
    exact World.cell?_setCell_same _ _ _ H.c
  · rw [World.frozen?_setCell, World.frozen?_setCell]
    exact H.f
  · exact grown_set (grown_set H.g (.inl rfl)) (.inr (Nat.le_refl _))
def CPR (w : World) (cb : Nat) (xs : List Int) (v : Value) (wr : World) : Prop := ∃ k : Nat, k ≤ xs.length ∧ v = .int .i64 k ∧ Hid (CPX w cb xs k wr)
end Go.Proofs.YthfonniieaiocaaGreatDoor
namespace Go.Proofs.YthfonniieaiocaaGreatDoor
open Go.RowKit

def SPV : List Value := SPECIALS.map fun s => .string (strOfNums s)
end Go.Proofs.YthfonniieaiocaaGreatDoor
namespace Go.Proofs.YthfonniieaiocaaGreatDoor
open Go.RowKit

def hdC (h : ByteArray × ByteArray) : List Value := [.string h.1, .string h.2]
def hds (l : List (ByteArray × ByteArray)) : List Value := l.flatMap hdC
theorem Rds.range2 {w : World} {b o : Nat} {cs : List Value} (h : ∀ j u, cs[j]? = some u → w.cell? ⟨b, o + j, none⟩ = some u) (k : Nat) (us : List Value) (hu : ∀ j u, us[j]? = some u → cs[k + j]? = some u) : w.rangeAt b (o + k) us := fun j u hj => by
  rw [Nat.add_assoc]
  exact h _ _ (hu j u hj)
/-- The two variables that named's function has captured. -/
structure NM (w : World) (eb cb : Nat) (C : Option (List Int)) : Prop where
  c : w.cell? ⟨cb, 0, none⟩ = some (.string (strOfNums (C.getD [])))
  e : w.cell? ⟨eb, 0, none⟩ = some (.int .u8 (if C.isSome = true then 0 else 5))
theorem NM.below {w w1 : World} {eb cb : Nat} {C : Option (List Int)} (h : NM w eb cb C) (hb : Below w.heap.size w w1) : NM w1 eb cb C :=
  ⟨(hb.cell (World.block_lt_of_cell? w _ h.c)).trans h.c, (hb.cell (World.block_lt_of_cell? w _ h.e)).trans h.e⟩
theorem getD_beq {o c : List Int} (ho : By o) (hc : By c) : ((strOfNums o).toList == (strOfNums c).toList) = (o == c) := by
  rw [Bool.eq_iff_iff, beq_iff_eq, beq_iff_eq, toList_inj]
  constructor
  · intro h
    rw [← byteL_str ho, h, byteL_str hc]
  · rintro rfl; rfl
def errK (C : Option (List Int)) : Int := if C.isSome = true then 0 else 5
def idxV : Option Nat → Value
  | none => .int .i64 (-1)
  | some k => .int .i64 k
def missH (l : List (ByteArray × ByteArray)) (C : Option (List Int)) (k : Nat) : Prop := ∀ j p, j < k → l[j]? = some p → hitN C p = false
end Go.Proofs.YthfonniieaiocaaGreatDoor
namespace Go.Proofs.YthfonniieaiocaaGreatDoor
open Go.RowKit

def pmC (p : Pm) : List Value := [.string (strOfNums p.n), .string (strOfNums p.v), .bool p.h]
def pms (l : List Pm) : List Value := l.flatMap pmC
theorem pms_snoc (l : List Pm) (p : Pm) : pms (l ++ [p]) = pms l ++ pmC p := by simp [pms]
theorem pms_len (l : List Pm) : (pms l).length = l.length * 3 := by
  unfold pms
  rw [List.length_flatMap, show (l.map fun a => (pmC a).length) = l.map (fun _ => 3) from List.map_congr_left fun _ _ => rfl]
  simp [List.map_const', Nat.mul_comm]
theorem pms_at {l : List Pm} {k : Nat} {p : Pm} (h : l[k]? = some p) : ∀ j u, (pmC p)[j]? = some u → (pms l)[k * 3 + j]? = some u := fun j u hu => by
  have hj : j < 3 := (List.getElem?_eq_some_iff.1 hu).1
  rw [← hu]
  exact flat_at pmC 3 (fun _ => rfl) l k j p h hj
theorem infoPm : ∃ i, Tryz.prog.info? 56 = some i ∧ i.zero = some (.agg #[.string ⟨#[]⟩, .string ⟨#[]⟩, .bool false]) ∧ i.size = 3 ∧ i.bytes = 40 := by
  have h : (Tryz.prog.info? 56).map (fun i => (i.size, i.zero, i.bytes)) = some (3, some (.agg #[.string ⟨#[]⟩, .string ⟨#[]⟩, .bool false]), 40) := by kernel_rfl
  rw [Option.map_eq_some_iff] at h
  obtain ⟨i, hi, he⟩ := h
  injection he with h1 h2
  injection h2 with h2 h3
  exact ⟨i, hi, h2, h1, h3⟩
theorem pms_rds {w wr : World} {v : Value} {n : Nat} {cs : List Value} {T : TypeId} {sz : Nat} (H : VX T sz w v n cs wr) : ∃ A c, v = .slice A n c ∧ n ≤ c ∧ Rds wr wr.heap.size A cs := by
  rcases H.form with ⟨rfl, rfl, rfl⟩ | ⟨g, cap, rfl, hc, _, hg, hcell⟩
  · exact ⟨none, 0, rfl, Nat.le_refl _, fun h => absurd h (by simp)⟩
  · exact ⟨_, cap, rfl, hc, fun _ => ⟨g, 0, rfl, hg, fun j u hu => by rw [Nat.zero_add]; exact hcell j u hu⟩⟩
def eqPm (nm : List Int) (p : Pm) : Bool := p.n == nm
set_option maxRecDepth 100000 in
theorem hitp_any (n v nm : List Int) (h : Bool) (b : Nat) (w : World) (hn : By n) (hm : By nm) (hb : w.cell? ⟨b, 0, none⟩ = some (.string (strOfNums nm))) :
    Calls Tryz.prog 157 #[.agg #[.string (strOfNums n), .string (strOfNums v), .bool h], .pointer (some ⟨b, 0, none⟩)] w fun e w' => e = .returned (.bool (n == nm)) ∧ Below w.heap.size w w' := by
  have B0 := Lib.hid ((Below.refl w.heap.size w).alloc (Nat.le_refl _) (.cells #[.string (strOfNums n), .string (strOfNums v), .bool h] 56))
  have c1 : (w.alloc (.cells #[.string (strOfNums n), .string (strOfNums v), .bool h] 56)).cell? ⟨b, 0, none⟩ = some (.string (strOfNums nm)) := (B0.out.cell (World.block_lt_of_cell? w _ hb)).trans hb
  have c0 : (w.alloc (.cells #[.string (strOfNums n), .string (strOfNums v), .bool h] 56)).cell? ⟨w.heap.size, 0, none⟩ = some (.string (strOfNums n)) := (Row.new w 56 [.string (strOfNums n), .string (strOfNums v), .bool h]).cell 0
  have E := Lib.hid (getD_beq hn hm)
  clear hb
  go_enter Tryz.func157, Tryz.ntmps157
  go_wp2_with fail
  go_ret
  exact ⟨ret_bool E.out, B0.out⟩
def missPm (l : List Pm) (nm : List Int) (k : Nat) : Prop := ∀ j p, j < k → l[j]? = some p → eqPm nm p = false
theorem missPm_succ {l : List Pm} {nm : List Int} {k : Nat} {p : Pm} (h : missPm l nm k) (hp : l[k]? = some p) (hq : eqPm nm p = false) : missPm l nm (k + 1) := fun j q hj hqj => by
  rcases Nat.lt_or_ge j k with h1 | h1
  · exact h j q h1 hqj
  · obtain rfl : j = k := by omega
    obtain rfl := Option.some.inj (hp.symm.trans hqj)
    exact hq
theorem findPm_some {l : List Pm} {nm : List Int} {k : Nat} {p : Pm} (h : missPm l nm k) (hp : l[k]? = some p) (hq : eqPm nm p = true) : l.findIdx? (eqPm nm) = some k := by
  obtain ⟨h1, h2⟩ := List.getElem?_eq_some_iff.1 hp
  rw [List.findIdx?_eq_some_iff_getElem]
  refine ⟨h1, by rw [h2]; exact hq, fun j hj => ?_⟩
  have := h j _ hj (List.getElem?_eq_getElem (by omega))
  simp [this]
theorem findPm_none {l : List Pm} {nm : List Int} (h : missPm l nm l.length) : l.findIdx? (eqPm nm) = none := by
  rw [List.findIdx?_eq_none_iff]
  intro p hp
  obtain ⟨j, hj⟩ := List.mem_iff_getElem?.1 hp
  exact h j p (List.getElem?_eq_some_iff.1 hj).1 hj
theorem holdsL_find (l : List Pm) (nm : List Int) : holdsL l nm = (l.findIdx? (eqPm nm)).isSome := by
  unfold holdsL
  rw [List.findIdx?_isSome]
  rfl
set_option maxRecDepth 100000 in
theorem indexp_any (A : Option Addr) (n c b : Nat) (l : List Pm) (nm : List Int) (w : World) (hA : Rds w w.heap.size A (pms l)) (hn : l.length = n) (hN : n ≤ 16000000) (hl : ∀ p ∈ l, By p.n) (hm : By nm) (hb : w.cell? ⟨b, 0, none⟩ = some (.string (strOfNums nm))) :
    Calls Tryz.prog 184 #[.slice A n c, .func (.func 157) #[] #[.pointer (some ⟨b, 0, none⟩)]] w fun e w' => e = .returned (idxV (l.findIdx? (eqPm nm))) ∧ Below w.heap.size w w' := by
  have HA := Lib.hid hA; have HN := Lib.hid hn; have HB := Lib.hid hb; have HL := Lib.hid hl; have HM := Lib.hid hm
  clear hA hn hb hl hm
  go_enter Tryz.func184, Tryz.ntmps184
  go_wp2_with fail
  go_loopw [8] (fun v wr => ∃ k : Nat, k ≤ n ∧ v = .int .i64 k ∧ Hid (missPm l nm k) ∧ Hid (Below w.heap.size w wr)) (fun v _ => n - (intOf v).toNat)
  case atStart => exact ⟨0, Nat.zero_le _, rfl, Lib.hid (fun _ _ h => absurd h (Nat.not_lt_zero _)), Lib.hid (Below.refl _ _)⟩
  case round =>
    obtain ⟨k, hk, rfl, HK, BR⟩ := hrel
    by_cases hlt : k < n
    · have hd : decide (k < n) = true := by simp [hlt]
      have hd2 : decide ((k : Int) < (n : Int)) = true := by simp; omega
      obtain ⟨p, hp⟩ : ∃ p, l[k]? = some p := ⟨_, List.getElem?_eq_getElem (by rw [HN.out]; exact hlt)⟩
      obtain ⟨x1, o1, rfl, hx1, hc1⟩ := HA.out (by rw [pms_len, HN.out]; omega)
      have G1 := Lib.hid (show wr.rangeAt x1 (o1 + k * 3) (pmC p) from fun j v hv => (BR.out.cell (p := ⟨x1, _, none⟩) hx1).trans (Rds.range2 hc1 (k * 3) _ (pms_at hp) j v hv))
      have cb := (BR.out.cell (World.block_lt_of_cell? w _ HB.out)).trans HB.out
      have HI := Lib.hid (hitp_any p.n p.v nm p.h b wr (HL.out p (List.mem_of_getElem? hp)) HM.out cb)
      have KS := Lib.hid (fun h => missPm_succ HK.out hp h)
      have KF := Lib.hid (fun h => findPm_some HK.out hp h)
      clear hc1 hp HK cb
      obtain ⟨pn, pv, ph⟩ := p
      dsimp only at HI
      have G2 := Lib.hid (show wr.rangeAt x1 (o1 + k * 3) [.string (strOfNums pn), .string (strOfNums pv), .bool ph] from G1.out)
      clear G1
      go_wp2_with (with_reducible refine wpList_load_mid rfl 56 (.tmp 14) rfl x1 (o1 + k * 3) rfl [.string (strOfNums pn), .string (strOfNums pv), .bool ph] _ G2.out Tryz.underlying56 rfl (sizePm _ _ _) ?_)
      refine HI.out.mono ?_
      rintro e w' ⟨rfl, hb'⟩
      have B2 := Lib.hid (bthen BR.out hb')
      clear hb' G2 HI
      cases hq : (pn == nm) with
      | true =>
        have E := Lib.hid (KF.out hq)
        clear KS KF hq
        go_wp2_with fail
        go_ret
        exact ⟨by rw [E.out]; rfl, B2.out⟩
      | false =>
        have K2 := Lib.hid (KS.out hq)
        clear KS KF hq
        go_wp2_with fail
        go_roundw
        case rel => exact ⟨k + 1, by omega, by go_num, K2, B2⟩
        case measure => simp [intOf]; omega
    · obtain rfl : k = n := by omega
      have E := Lib.hid (findPm_none (show missPm l nm l.length by rw [HN.out]; exact HK.out))
      go_wp2_with fail
      go_ret
      exact ⟨by rw [E.out]; rfl, BR.out⟩
theorem idxV_ge (X : Option Nat) : ∃ z : Int, idxV X = .int .i64 z ∧ decide (0 ≤ z) = X.isSome := by
  cases X with
  | none => exact ⟨-1, rfl, rfl⟩
  | some k => exact ⟨k, rfl, by simp⟩
set_option maxRecDepth 100000 in
theorem containsp_any (A : Option Addr) (n c b : Nat) (l : List Pm) (nm : List Int) (w : World) (hA : Rds w w.heap.size A (pms l)) (hn : l.length = n) (hN : n ≤ 16000000) (hl : ∀ p ∈ l, By p.n) (hm : By nm) (hb : w.cell? ⟨b, 0, none⟩ = some (.string (strOfNums nm))) :
    Calls Tryz.prog 156 #[.slice A n c, .func (.func 157) #[] #[.pointer (some ⟨b, 0, none⟩)]] w fun e w' => e = .returned (.bool (holdsL l nm)) ∧ Below w.heap.size w w' := by
  have IX := Lib.hid (indexp_any A n c b l nm w hA hn hN hl hm hb)
  obtain ⟨z, hz, hz2⟩ := idxV_ge (l.findIdx? (eqPm nm))
  rw [hz] at IX
  have E := Lib.hid (hz2.trans (holdsL_find l nm).symm)
  clear hA hn hl hm hb hz hz2
  go_enter Tryz.func156, Tryz.ntmps156
  go_wp2_with fail
  refine IX.out.mono ?_
  rintro e w1 ⟨rfl, hb⟩
  have B1 := Lib.hid hb
  clear hb IX
  go_wp2_with fail
  go_ret
  exact ⟨ret_bool E.out, B1.out⟩
set_option maxRecDepth 100000 in
theorem holds_any (A : Option Addr) (n c : Nat) (l : List Pm) (nm : List Int) (w : World) (hA : Rds w w.heap.size A (pms l)) (hn : l.length = n) (hN : n ≤ 16000000) (hl : ∀ p ∈ l, By p.n) (hm : By nm) :
    Calls Tryz.prog 110 #[.slice A n c, .string (strOfNums nm)] w fun e w' => e = .returned (.bool (holdsL l nm)) ∧ Below w.heap.size w w' := by
  have B0 := Lib.hid ((Below.refl w.heap.size w).alloc (Nat.le_refl _) (.cells #[.string (strOfNums nm)] 9))
  have HA := Lib.hid ((hA.below B0.out).up B0.out.size); have HN := Lib.hid hn; have HL := Lib.hid hl; have HM := Lib.hid hm
  have c0 : (w.alloc (.cells #[.string (strOfNums nm)] 9)).cell? ⟨w.heap.size, 0, none⟩ = some (.string (strOfNums nm)) := (Row.new w 9 [.string (strOfNums nm)]).cell 0
  have IX := Lib.hid (containsp_any A n c w.heap.size l nm _ HA.out hn hN hl hm c0)
  clear hA hn hl hm HA c0
  generalize holdsL l nm = H at *
  go_enter Tryz.func110, Tryz.ntmps110
  go_wp2_with fail
  refine IX.out.mono ?_
  rintro e w1 ⟨rfl, hb⟩
  have B1 := Lib.hid (bthen B0.out hb)
  clear hb IX
  go_wp2_with fail
  go_ret
  exact ⟨rfl, B1.out⟩
theorem roomL_held {l : List Pm} {nm : List Int} (h : holdsL l nm = true) : roomL l nm = 7 := if_pos h
theorem roomL_full {l : List Pm} {nm : List Int} (h : holdsL l nm = false) (h2 : 16 ≤ l.length) : roomL l nm = 4 := by unfold roomL; rw [if_neg (by rw [h]; decide), if_pos h2]
theorem roomL_ok {l : List Pm} {nm : List Int} (h : holdsL l nm = false) (h2 : ¬ 16 ≤ l.length) : roomL l nm = 0 := by unfold roomL; rw [if_neg (by rw [h]; decide), if_neg h2]
set_option maxRecDepth 100000 in
theorem room_any (A : Option Addr) (n c : Nat) (l : List Pm) (nm : List Int) (w : World) (hA : Rds w w.heap.size A (pms l)) (hn : l.length = n) (hN : n ≤ 16000000) (hl : ∀ p ∈ l, By p.n) (hm : By nm) :
    Calls Tryz.prog 108 #[.slice A n c, .string (strOfNums nm)] w fun e w' => e = .returned (.int .u8 (roomL l nm)) ∧ Below w.heap.size w w' := by
  have HH := Lib.hid (holds_any A n c l nm w hA hn hN hl hm)
  have E1 := Lib.hid (fun h => roomL_held (l := l) (nm := nm) h); have E2 := Lib.hid (fun h (h2 : 16 ≤ n) => roomL_full (l := l) (nm := nm) h (by rw [hn]; exact h2)); have E3 := Lib.hid (fun h (h2 : ¬ 16 ≤ n) => roomL_ok (l := l) (nm := nm) h (by rw [hn]; exact h2))
  clear hA hn hl hm
  generalize roomL l nm = R at *
  generalize holdsL l nm = H at *
  go_enter Tryz.func108, Tryz.ntmps108
  go_wp2_with fail
  refine HH.out.mono ?_
  rintro e w1 ⟨rfl, hb⟩
  have B1 := Lib.hid hb
  clear hb HH
  cases H with
  | true =>
    have E := Lib.hid (E1.out rfl)
    go_wp2_with fail
    go_ret
    exact ⟨by rw [E.out]; rfl, B1.out⟩
  | false =>
    by_cases h16 : 16 ≤ n
    · have d : decide ((16 : Int) ≤ (n : Int)) = true := by simp; omega
      have E := Lib.hid (E2.out rfl h16)
      go_wp2_with fail
      go_ret
      exact ⟨by rw [E.out]; rfl, B1.out⟩
    · have d : decide ((16 : Int) ≤ (n : Int)) = false := by simp; omega
      have E := Lib.hid (E3.out rfl h16)
      go_wp2_with fail
      go_ret
      exact ⟨by rw [E.out]; rfl, B1.out⟩
end Go.Proofs.YthfonniieaiocaaGreatDoor
namespace Go.Proofs.YthfonniieaiocaaGreatDoor
open Go.RowKit

def pmOK (m : Nat) (p : Pm) : Prop := By p.n ∧ By p.v ∧ p.n.length ≤ m ∧ p.v.length ≤ m
/-- The cursor and the parameters read so far. -/
structure PS (w : World) (cb : Nat) (s : ByteArray) (a : Nat) (l : List Pm) (v : Value) (wr : World) : Prop where
  c : Row wr cb 84 [.string s, .int .i64 a]
  ge : w.heap.size ≤ cb
  o : VX 56 3 w v l.length (pms l) wr
theorem VX.row {T : TypeId} {sz : Nat} {w wr : World} {v : Value} {n : Nat} {cs : List Value} {g : Nat} (H : VX T sz w v n cs wr) (hg : v.ownBlock = some g) : ∃ cur : Array Value, wr.heap[g]? = some (.cells cur T (0, 0)) := by
  rcases H.o.2 with ⟨rfl, _⟩ | ⟨g2, cap, cur, rfl, _, hb, _⟩
  · cases hg
  · cases hg
    exact ⟨cur, hb⟩
theorem PS.far {w wr : World} {cb a : Nat} {s : ByteArray} {l : List Pm} {v : Value} (h : PS w cb s a l v wr) : ∀ g, v.ownBlock = some g → g ≠ cb := fun g hg e => by
  obtain ⟨cur, h1⟩ := h.o.row hg
  have h2 := h.c
  unfold Row at h2
  rw [e, h2] at h1
  injection h1 with h1
  injection h1 with _ h1
  exact absurd h1 (by decide)
section
variable {w wr w' : World} {cb a a' : Nat} {s : ByteArray} {l : List Pm} {v : Value}
theorem PS.call (h : PS w cb s a l v wr) (hb : Below wr.heap.size wr w') : PS w cb s a l v w' := ⟨h.c.below hb, h.ge, h.o.step hb⟩
theorem PS.cur (h : PS w cb s a l v wr) (hg : CG wr cb s a' w') : PS w cb s a' l v w' :=
  ⟨hg.r, h.ge, h.o.other (h.o.bw.grown hg.g h.o.bw.size (fun k hk => by cases hk; exact h.ge)) (fun g hv => hg.g.block g (by
    obtain ⟨cur, h1⟩ := h.o.row hv
    exact lt_of_block h1) (fun e => h.far g hv (by injection e)))⟩
theorem PS.cset (h : PS w cb s a l v wr) (a' : Nat) {z : Int} (hz : z = a') : PS w cb s a' l v (wr.setCell ⟨cb, 1, none⟩ (.int .i64 z)) := h.cur ((CG.refl h.c).set a' hz)
end
theorem wpList_pushC {w wr : World} {cb a0 : Nat} {s : ByteArray} {l : List Pm} {v : Value} {ops : Array Oper} {rest : List Oper} {o : Oper} {a : Act} {Q : Exit → Act → World → Prop} (hgd : o.guard = none) (x y : Operand)
    (ho : o.op = .call { callee := .builtin .append, args := #[x, y], argTypes := #[30, 30] }) (hs : a.eval x = v) (H : PS w cb s a0 l v wr) (p : Pm) (hy : a.eval y = .slice (some ⟨wr.heap.size, 0, none⟩) 1 1) (hb : l.length + 1 ≤ 16777216)
    (h : ∀ v' w', Hid (PS w cb s a0 (l ++ [p]) v' w') → wpList Tryz.prog ops Q rest (a.put o.dst v') w') : wpList Tryz.prog ops Q (o :: rest) a (wr.alloc (.cells #[.string (strOfNums p.n), .string (strOfNums p.v), .bool p.h] 56)) := by
  obtain ⟨i, hi, hz, hsz, hbt⟩ := infoPm
  have hbase : w.heap.size ≤ (wr.alloc (.cells #[.string (strOfNums p.n), .string (strOfNums p.v), .bool p.h] 56)).heap.size := by have := H.o.bw.size; simp; omega
  refine wpList_append_own _ hgd x y 30 ho w.heap.size 56 i _ 3 40 Tryz.underlying30 hi hz hsz hbt rfl (by omega) v l.length (pms l) hs (H.o.o.alloc _) ⟨wr.heap.size, 0, none⟩ 1 1 [.string (strOfNums p.n), .string (strOfNums p.v), .bool p.h] hy rfl (fun j u hu => ?_) (pm_one _ _ _) (by unfold maxLen; omega) ?_ hbase ?_
  · rw [Addr.add_mid, Nat.zero_add]
    exact ((Row.new wr 56 [.string (strOfNums p.n), .string (strOfNums p.v), .bool p.h]).cell j).trans hu
  · omega
  · intro v' w' h2 h3 _
    refine h v' w' (Lib.hid ⟨(H.c.alloc _).heap (h3.block cb (by rw [World.size_alloc]; have := H.c.lt; omega) (fun e => H.far cb e.symm rfl)), H.ge, ?_⟩)
    rw [pms_snoc, List.length_append]
    exact ⟨h2, (H.o.bw.alloc H.o.bw.size _).grown h3 hbase (own_block H.o.o)⟩
end Go.Proofs.YthfonniieaiocaaGreatDoor
