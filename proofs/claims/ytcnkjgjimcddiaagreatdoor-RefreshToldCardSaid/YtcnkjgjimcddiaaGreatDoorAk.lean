/- Contracts: address's holds, room; Params, where the text has no bracket. Plain: what listed and Params leave; the slice of parameters kept beside the cursor. Contract: address.Params, where the text has no bracket. -/
import Derived.Test.YtcnkjgjimcddiaaGreatDoorAh
import Derived.Test.YtcnkjgjimcddiaaGreatDoorAe
namespace Go.Proofs.YtcnkjgjimcddiaaGreatDoor
open Go.RowKit

def pmC (p : Pm) : List Value := [.string (strOfNums p.n), .string (strOfNums p.v), .bool p.h]
def pms (l : List Pm) : List Value := l.flatMap pmC
theorem pms_snoc (l : List Pm) (p : Pm) : pms (l ++ [p]) = pms l ++ pmC p := by simp [pms]
theorem pms_len (l : List Pm) : (pms l).length = l.length * 3 := by
  unfold pms
  rw [List.length_flatMap, show (l.map fun a => (pmC a).length) = l.map (fun _ => 3) from List.map_congr_left fun _ _ => rfl]
  simp [List.map_const', Nat.mul_comm]
theorem pms_at {l : List Pm} {k : Nat} {p : Pm} (h : l[k]? = some p) : ∀ j u, (pmC p)[j]? = some u → (pms l)[k * 3 + j]? = some u := fun j u hu => by
  have hj : j < 3 := (List.getElem?_eq_some_iff.1 hu).1
  rw [← hu]
  exact flat_at pmC 3 (fun _ => rfl) l k j p h hj
theorem infoPm : ∃ i, Tryz.prog.info? 84 = some i ∧ i.zero = some (.agg #[.string ⟨#[]⟩, .string ⟨#[]⟩, .bool false]) ∧ i.size = 3 ∧ i.bytes = 40 := by
  have h : (Tryz.prog.info? 84).map (fun i => (i.size, i.zero, i.bytes)) = some (3, some (.agg #[.string ⟨#[]⟩, .string ⟨#[]⟩, .bool false]), 40) := by kernel_rfl
  rw [Option.map_eq_some_iff] at h
  obtain ⟨i, hi, he⟩ := h
  injection he with h1 h2
  injection h2 with h2 h3
  exact ⟨i, hi, h2, h1, h3⟩
theorem pms_rds {w wr : World} {v : Value} {n : Nat} {cs : List Value} {T : TypeId} {sz : Nat} (H : VX T sz w v n cs wr) : ∃ A c, v = .slice A n c ∧ n ≤ c ∧ Rds wr wr.heap.size A cs := by
  rcases H.form with ⟨rfl, rfl, rfl⟩ | ⟨g, cap, rfl, hc, _, hg, hcell⟩
  · exact ⟨none, 0, rfl, Nat.le_refl _, fun h => absurd h (by simp)⟩
  · exact ⟨_, cap, rfl, hc, fun _ => ⟨g, 0, rfl, hg, fun j u hu => by rw [Nat.zero_add]; exact hcell j u hu⟩⟩
def eqPm (nm : List Int) (p : Pm) : Bool := p.n == nm
set_option maxRecDepth 100000 in
theorem hitp_any (n v nm : List Int) (h : Bool) (b : Nat) (w : World) (hn : By n) (hm : By nm) (hb : w.cell? ⟨b, 0, none⟩ = some (.string (strOfNums nm))) :
    Calls Tryz.prog 123 #[.agg #[.string (strOfNums n), .string (strOfNums v), .bool h], .pointer (some ⟨b, 0, none⟩)] w fun e w' => e = .returned (.bool (n == nm)) ∧ Below w.heap.size w w' := by
  have B0 := Lib.hid ((Below.refl w.heap.size w).alloc (Nat.le_refl _) (.cells #[.string (strOfNums n), .string (strOfNums v), .bool h] 84))
  have c1 : (w.alloc (.cells #[.string (strOfNums n), .string (strOfNums v), .bool h] 84)).cell? ⟨b, 0, none⟩ = some (.string (strOfNums nm)) := (B0.out.cell (World.block_lt_of_cell? w _ hb)).trans hb
  have c0 : (w.alloc (.cells #[.string (strOfNums n), .string (strOfNums v), .bool h] 84)).cell? ⟨w.heap.size, 0, none⟩ = some (.string (strOfNums n)) := (Row.new w 84 [.string (strOfNums n), .string (strOfNums v), .bool h]).cell 0
  have E := Lib.hid (getD_beq hn hm)
  clear hb
  go_enter Tryz.func123, Tryz.ntmps123
  go_wp2_with fail
  go_ret
  exact ⟨ret_bool E.out, B0.out⟩
def missPm (l : List Pm) (nm : List Int) (k : Nat) : Prop := ∀ j p, j < k → l[j]? = some p → eqPm nm p = false
theorem missPm_succ {l : List Pm} {nm : List Int} {k : Nat} {p : Pm} (h : missPm l nm k) (hp : l[k]? = some p) (hq : eqPm nm p = false) : missPm l nm (k + 1) := fun j q hj hqj => by
  rcases Nat.lt_or_ge j k with h1 | h1
  · exact h j q h1 hqj
  · obtain rfl : j = k := by omega
    obtain rfl := Option.some.inj (hp.symm.trans hqj)
    exact hq
theorem findPm_some {l : List Pm} {nm : List Int} {k : Nat} {p : Pm} (h : missPm l nm k) (hp : l[k]? = some p) (hq : eqPm nm p = true) : l.findIdx? (eqPm nm) = some k := by
  obtain ⟨h1, h2⟩ := List.getElem?_eq_some_iff.1 hp
  rw [List.findIdx?_eq_some_iff_getElem]
  refine ⟨h1, by rw [h2]; exact hq, fun j hj => ?_⟩
  have := h j _ hj (List.getElem?_eq_getElem (by omega))
  simp [this]
theorem findPm_none {l : List Pm} {nm : List Int} (h : missPm l nm l.length) : l.findIdx? (eqPm nm) = none := by
  rw [List.findIdx?_eq_none_iff]
  intro p hp
  obtain ⟨j, hj⟩ := List.mem_iff_getElem?.1 hp
  exact h j p (List.getElem?_eq_some_iff.1 hj).1 hj
theorem holdsL_find (l : List Pm) (nm : List Int) : holdsL l nm = (l.findIdx? (eqPm nm)).isSome := by
  unfold holdsL
  rw [List.findIdx?_isSome]
  rfl
set_option maxRecDepth 100000 in
theorem indexp_any (A : Option Addr) (n c b : Nat) (l : List Pm) (nm : List Int) (w : World) (hA : Rds w w.heap.size A (pms l)) (hn : l.length = n) (hN : n ≤ 16000000) (hl : ∀ p ∈ l, By p.n) (hm : By nm) (hb : w.cell? ⟨b, 0, none⟩ = some (.string (strOfNums nm))) :
    Calls Tryz.prog 139 #[.slice A n c, .func (.func 123) #[] #[.pointer (some ⟨b, 0, none⟩)]] w fun e w' => e = .returned (idxV (l.findIdx? (eqPm nm))) ∧ Below w.heap.size w w' := by
  have HA := Lib.hid hA; have HN := Lib.hid hn; have HB := Lib.hid hb; have HL := Lib.hid hl; have HM := Lib.hid hm
  clear hA hn hb hl hm
  go_enter Tryz.func139, Tryz.ntmps139
  go_wp2_with fail
  go_loopw [8] (fun v wr => ∃ k : Nat, k ≤ n ∧ v = .int .i64 k ∧ Hid (missPm l nm k) ∧ Hid (Below w.heap.size w wr)) (fun v _ => n - (intOf v).toNat)
  case atStart => exact ⟨0, Nat.zero_le _, rfl, Lib.hid (fun _ _ h => absurd h (Nat.not_lt_zero _)), Lib.hid (Below.refl _ _)⟩
  case round =>
    obtain ⟨k, hk, rfl, HK, BR⟩ := hrel
    by_cases hlt : k < n
    · have hd : decide (k < n) = true := by simp [hlt]
      have hd2 : decide ((k : Int) < (n : Int)) = true := by simp; omega
      obtain ⟨p, hp⟩ : ∃ p, l[k]? = some p := ⟨_, List.getElem?_eq_getElem (by rw [HN.out]; exact hlt)⟩
      obtain ⟨x1, o1, rfl, hx1, hc1⟩ := HA.out (by rw [pms_len, HN.out]; omega)
      have G1 := Lib.hid (show wr.rangeAt x1 (o1 + k * 3) (pmC p) from fun j v hv => (BR.out.cell (p := ⟨x1, _, none⟩) hx1).trans (Rds.range2 hc1 (k * 3) _ (pms_at hp) j v hv))
      have cb := (BR.out.cell (World.block_lt_of_cell? w _ HB.out)).trans HB.out
      have HI := Lib.hid (hitp_any p.n p.v nm p.h b wr (HL.out p (List.mem_of_getElem? hp)) HM.out cb)
      have KS := Lib.hid (fun h => missPm_succ HK.out hp h)
      have KF := Lib.hid (fun h => findPm_some HK.out hp h)
      clear hc1 hp HK cb
      obtain ⟨pn, pv, ph⟩ := p
      dsimp only at HI
      have G2 := Lib.hid (show wr.rangeAt x1 (o1 + k * 3) [.string (strOfNums pn), .string (strOfNums pv), .bool ph] from G1.out)
      clear G1
      go_wp2_with (with_reducible refine wpList_load_mid rfl 84 (.tmp 14) rfl x1 (o1 + k * 3) rfl [.string (strOfNums pn), .string (strOfNums pv), .bool ph] _ G2.out Tryz.underlying84 rfl (sizePm _ _ _) ?_)
      refine HI.out.mono ?_
      rintro e w' ⟨rfl, hb'⟩
      have B2 := Lib.hid (bthen BR.out hb')
      clear hb' G2 HI
      cases hq : (pn == nm) with
      | true =>
        have E := Lib.hid (KF.out hq)
        clear KS KF hq
        go_wp2_with fail
        go_ret
        exact ⟨by rw [E.out]; rfl, B2.out⟩
      | false =>
        have K2 := Lib.hid (KS.out hq)
        clear KS KF hq
        go_wp2_with fail
        go_roundw
        case rel => exact ⟨k + 1, by omega, by go_num, K2, B2⟩
        case measure => simp [intOf]; omega
    · obtain rfl : k = n := by omega
      have E := Lib.hid (findPm_none (show missPm l nm l.length by rw [HN.out]; exact HK.out))
      go_wp2_with fail
      go_ret
      exact ⟨by rw [E.out]; rfl, BR.out⟩
theorem idxV_ge (X : Option Nat) : ∃ z : Int, idxV X = .int .i64 z ∧ decide (0 ≤ z) = X.isSome := by
  cases X with
  | none => exact ⟨-1, rfl, rfl⟩
  | some k => exact ⟨k, rfl, by simp⟩
set_option maxRecDepth 100000 in
theorem containsp_any (A : Option Addr) (n c b : Nat) (l : List Pm) (nm : List Int) (w : World) (hA : Rds w w.heap.size A (pms l)) (hn : l.length = n) (hN : n ≤ 16000000) (hl : ∀ p ∈ l, By p.n) (hm : By nm) (hb : w.cell? ⟨b, 0, none⟩ = some (.string (strOfNums nm))) :
    Calls Tryz.prog 122 #[.slice A n c, .func (.func 123) #[] #[.pointer (some ⟨b, 0, none⟩)]] w fun e w' => e = .returned (.bool (holdsL l nm)) ∧ Below w.heap.size w w' := by
  have IX := Lib.hid (indexp_any A n c b l nm w hA hn hN hl hm hb)
  obtain ⟨z, hz, hz2⟩ := idxV_ge (l.findIdx? (eqPm nm))
  rw [hz] at IX
  have E := Lib.hid (hz2.trans (holdsL_find l nm).symm)
  clear hA hn hl hm hb hz hz2
  go_enter Tryz.func122, Tryz.ntmps122
  go_wp2_with fail
  refine IX.out.mono ?_
  rintro e w1 ⟨rfl, hb⟩
  have B1 := Lib.hid hb
  clear hb IX
  go_wp2_with fail
  go_ret
  exact ⟨ret_bool E.out, B1.out⟩
set_option maxRecDepth 100000 in
theorem holds_any (A : Option Addr) (n c : Nat) (l : List Pm) (nm : List Int) (w : World) (hA : Rds w w.heap.size A (pms l)) (hn : l.length = n) (hN : n ≤ 16000000) (hl : ∀ p ∈ l, By p.n) (hm : By nm) :
    Calls Tryz.prog 102 #[.slice A n c, .string (strOfNums nm)] w fun e w' => e = .returned (.bool (holdsL l nm)) ∧ Below w.heap.size w w' := by
  have B0 := Lib.hid ((Below.refl w.heap.size w).alloc (Nat.le_refl _) (.cells #[.string (strOfNums nm)] 9))
  have HA := Lib.hid ((hA.below B0.out).up B0.out.size); have HN := Lib.hid hn; have HL := Lib.hid hl; have HM := Lib.hid hm
  have c0 : (w.alloc (.cells #[.string (strOfNums nm)] 9)).cell? ⟨w.heap.size, 0, none⟩ = some (.string (strOfNums nm)) := (Row.new w 9 [.string (strOfNums nm)]).cell 0
  have IX := Lib.hid (containsp_any A n c w.heap.size l nm _ HA.out hn hN hl hm c0)
  clear hA hn hl hm HA c0
  generalize holdsL l nm = H at *
  go_enter Tryz.func102, Tryz.ntmps102
  go_wp2_with fail
  refine IX.out.mono ?_
  rintro e w1 ⟨rfl, hb⟩
  have B1 := Lib.hid (bthen B0.out hb)
  clear hb IX
  go_wp2_with fail
  go_ret
  exact ⟨rfl, B1.out⟩
theorem roomL_held {l : List Pm} {nm : List Int} (h : holdsL l nm = true) : roomL l nm = 7 := if_pos h
theorem roomL_full {l : List Pm} {nm : List Int} (h : holdsL l nm = false) (h2 : 16 ≤ l.length) : roomL l nm = 4 := by unfold roomL; rw [if_neg (by rw [h]; decide), if_pos h2]
theorem roomL_ok {l : List Pm} {nm : List Int} (h : holdsL l nm = false) (h2 : ¬ 16 ≤ l.length) : roomL l nm = 0 := by unfold roomL; rw [if_neg (by rw [h]; decide), if_neg h2]
set_option maxRecDepth 100000 in
theorem room_any (A : Option Addr) (n c : Nat) (l : List Pm) (nm : List Int) (w : World) (hA : Rds w w.heap.size A (pms l)) (hn : l.length = n) (hN : n ≤ 16000000) (hl : ∀ p ∈ l, By p.n) (hm : By nm) :
    Calls Tryz.prog 75 #[.slice A n c, .string (strOfNums nm)] w fun e w' => e = .returned (.int .u8 (roomL l nm)) ∧ Below w.heap.size w w' := by
  have HH := Lib.hid (holds_any A n c l nm w hA hn hN hl hm)
  have E1 := Lib.hid (fun h => roomL_held (l := l) (nm := nm) h); have E2 := Lib.hid (fun h (h2 : 16 ≤ n) => roomL_full (l := l) (nm := nm) h (by rw [hn]; exact h2)); have E3 := Lib.hid (fun h (h2 : ¬ 16 ≤ n) => roomL_ok (l := l) (nm := nm) h (by rw [hn]; exact h2))
  clear hA hn hl hm
  generalize roomL l nm = R at *
  generalize holdsL l nm = H at *
  go_enter Tryz.func75, Tryz.ntmps75
  go_wp2_with fail
  refine HH.out.mono ?_
  rintro e w1 ⟨rfl, hb⟩
  have B1 := Lib.hid hb
  clear hb HH
  cases H with
  | true =>
    have E := Lib.hid (E1.out rfl)
    go_wp2_with fail
    go_ret
    exact ⟨by rw [E.out]; rfl, B1.out⟩
  | false =>
    by_cases h16 : 16 ≤ n
    · have d : decide ((16 : Int) ≤ (n : Int)) = true := by simp; omega
      have E := Lib.hid (E2.out rfl h16)
      go_wp2_with fail
      go_ret
      exact ⟨by rw [E.out]; rfl, B1.out⟩
    · have d : decide ((16 : Int) ≤ (n : Int)) = false := by simp; omega
      have E := Lib.hid (E3.out rfl h16)
      go_wp2_with fail
      go_ret
      exact ⟨by rw [E.out]; rfl, B1.out⟩
end Go.Proofs.YtcnkjgjimcddiaaGreatDoor
namespace Go.Proofs.YtcnkjgjimcddiaaGreatDoor
open Go.RowKit

theorem unq_pos2 {X : List Int} {a : Nat} (ha : a ≤ X.length) : (unq X a).2.1 ≤ X.length ∧ ((unq X a).2.2 = 0 → a < (unq X a).2.1) := unq_pos ha
theorem listedL_ok {X : List Int} {a a' : Nat} {p : Pm} (hX : By X) (ha : a ≤ X.length) (h : listedL X a = .ok (p, a')) : By p.n ∧ By p.v ∧ p.n.length ≤ X.length ∧ p.v.length ≤ X.length ∧ a < a' ∧ a' ≤ X.length := by
  obtain ⟨e1, he1⟩ : ∃ k, skipTo isTok X a = k := ⟨_, rfl⟩
  obtain ⟨a1, ha1⟩ : ∃ k, skipTo isBlank X e1 = k := ⟨_, rfl⟩
  obtain ⟨a2, ha2⟩ : ∃ k, skipTo isBlank X (a1 + 1) = k := ⟨_, rfl⟩
  obtain ⟨e3, he3⟩ : ∃ k, skipTo isTok X a2 = k := ⟨_, rfl⟩
  rw [listedL_eq he1 ha1 ha2 he3] at h
  have ae1 : a ≤ e1 := by rw [← he1]; exact skip_ge _ _ _
  have e1s : e1 ≤ X.length := by rw [← he1]; exact skip_le ha
  have e1a1 : e1 ≤ a1 := by rw [← ha1]; exact skip_ge _ _ _
  have a1s : a1 ≤ X.length := by rw [← ha1]; exact skip_le e1s
  have nB : By (lowS (subL X a e1)) := lowS_by (hX.sub (subL_sub X a e1))
  have nL : (lowS (subL X a e1)).length ≤ X.length := by rw [lowS_len, subL_len e1s]; omega
  split at h
  · cases h
  rename_i h0
  split at h
  · injection h with h
    injection h with h1 h2
    subst h1; subst h2
    exact ⟨nB, fun x hx => (by cases hx), nL, Nat.zero_le _, by omega, a1s⟩
  rename_i h1
  have h1' : a1 < X.length := by
    have := Classical.not_not.1 h1
    exact this.1
  have a2g : a1 + 1 ≤ a2 := by rw [← ha2]; exact skip_ge _ _ _
  have a2s : a2 ≤ X.length := by rw [← ha2]; exact skip_le h1'
  split at h
  · split at h
    · cases h
    · rename_i h3
      injection h with h
      injection h with h4 h5
      subst h4; subst h5
      obtain ⟨q1, q2⟩ := unq_pos2 a2s
      have q3 := q2 (Classical.not_not.1 h3)
      obtain ⟨q4, q5⟩ := unq_mem X (a2 : Nat)
      exact ⟨nB, fun x hx => hX x (q4 x hx), nL, q5, by omega, q1⟩
  · split at h
    · cases h
    · injection h with h
      injection h with h4 h5
      subst h4; subst h5
      have e3g : a2 ≤ e3 := by rw [← he3]; exact skip_ge _ _ _
      have e3s : e3 ≤ X.length := by rw [← he3]; exact skip_le a2s
      exact ⟨nB, hX.sub (subL_sub X a2 e3), nL, by rw [subL_len e3s]; omega, by omega, e3s⟩
theorem listedL_err {X : List Int} {a z : Nat} {k : Int} (h : listedL X a = .error (z, k)) : k ≠ 0 := by
  rw [listedL_eq rfl rfl rfl rfl] at h
  split at h
  · injection h with h; injection h with h1 h2; subst h2; decide
  split at h
  · cases h
  split at h
  · split at h
    · rename_i h3
      injection h with h; injection h with h1 h2; subst h2; exact h3
    · cases h
  · split at h
    · injection h with h; injection h with h1 h2; subst h2; decide
    · cases h
theorem paramsN_end {X : List Int} {f a a0 : Nat} {l : List Pm} (h : skipTo isBlank X a = a0) (h2 : X.length ≤ a0) : paramsN X (f + 1) a l = .ok l := by
  subst h
  unfold paramsN
  rw [if_pos h2]
theorem paramsN_sep {X : List Int} {f a a0 : Nat} {l : List Pm} (h : skipTo isBlank X a = a0) (h2 : ¬ X.length ≤ a0) (h3 : X.getD a0 0 ≠ 59) : paramsN X (f + 1) a l = .error (a0, 5) := by
  subst h
  unfold paramsN
  rw [if_neg h2, if_pos h3]
theorem paramsN_go {X : List Int} {f a a0 a1 : Nat} {l : List Pm} (h : skipTo isBlank X a = a0) (h2 : ¬ X.length ≤ a0) (h3 : X.getD a0 0 = 59) (h4 : skipTo isBlank X (a0 + 1) = a1) :
    paramsN X (f + 1) a l = match listedL X a1 with
      | .error e => .error e
      | .ok (p, a2) => if roomL l p.n ≠ 0 then .error (a1, roomL l p.n) else paramsN X f a2 (l ++ [p]) := by
  subst h; subst h4
  conv => lhs; unfold paramsN
  rw [if_neg h2, if_neg (fun h => h h3)]
  rfl
def pmOK (m : Nat) (p : Pm) : Prop := By p.n ∧ By p.v ∧ p.n.length ≤ m ∧ p.v.length ≤ m
/-- The cursor and the parameters read so far. -/
structure PS (w : World) (cb : Nat) (s : ByteArray) (a : Nat) (l : List Pm) (v : Value) (wr : World) : Prop where
  c : Row wr cb 113 [.string s, .int .i64 a]
  ge : w.heap.size ≤ cb
  o : VX 84 3 w v l.length (pms l) wr
theorem VX.row {T : TypeId} {sz : Nat} {w wr : World} {v : Value} {n : Nat} {cs : List Value} {g : Nat} (H : VX T sz w v n cs wr) (hg : v.ownBlock = some g) : ∃ cur : Array Value, wr.heap[g]? = some (.cells cur T (0, 0)) := by
  rcases H.o.2 with ⟨rfl, _⟩ | ⟨g2, cap, cur, rfl, _, hb, _⟩
  · cases hg
  · cases hg
    exact ⟨cur, hb⟩
theorem PS.far {w wr : World} {cb a : Nat} {s : ByteArray} {l : List Pm} {v : Value} (h : PS w cb s a l v wr) : ∀ g, v.ownBlock = some g → g ≠ cb := fun g hg e => by
  obtain ⟨cur, h1⟩ := h.o.row hg
  have h2 := h.c
  unfold Row at h2
  rw [e, h2] at h1
  injection h1 with h1
  injection h1 with _ h1
  exact absurd h1 (by decide)
section
variable {w wr w' : World} {cb a a' : Nat} {s : ByteArray} {l : List Pm} {v : Value}
theorem PS.call (h : PS w cb s a l v wr) (hb : Below wr.heap.size wr w') : PS w cb s a l v w' := ⟨h.c.below hb, h.ge, h.o.step hb⟩
theorem PS.cur (h : PS w cb s a l v wr) (hg : CG wr cb s a' w') : PS w cb s a' l v w' :=
  ⟨hg.r, h.ge, h.o.other (h.o.bw.grown hg.g h.o.bw.size (fun k hk => by cases hk; exact h.ge)) (fun g hv => hg.g.block g (by
    obtain ⟨cur, h1⟩ := h.o.row hv
    exact lt_of_block h1) (fun e => h.far g hv (by injection e)))⟩
theorem PS.cset (h : PS w cb s a l v wr) (a' : Nat) {z : Int} (hz : z = a') : PS w cb s a' l v (wr.setCell ⟨cb, 1, none⟩ (.int .i64 z)) := h.cur ((CG.refl h.c).set a' hz)
end
theorem wpList_pushC {w wr : World} {cb a0 : Nat} {s : ByteArray} {l : List Pm} {v : Value} {ops : Array Oper} {rest : List Oper} {o : Oper} {a : Act} {Q : Exit → Act → World → Prop} (hgd : o.guard = none) (x y : Operand)
    (ho : o.op = .call { callee := .builtin .append, args := #[x, y], argTypes := #[63, 63] }) (hs : a.eval x = v) (H : PS w cb s a0 l v wr) (p : Pm) (hy : a.eval y = .slice (some ⟨wr.heap.size, 0, none⟩) 1 1) (hb : l.length + 1 ≤ 16777216)
    (h : ∀ v' w', Hid (PS w cb s a0 (l ++ [p]) v' w') → wpList Tryz.prog ops Q rest (a.put o.dst v') w') : wpList Tryz.prog ops Q (o :: rest) a (wr.alloc (.cells #[.string (strOfNums p.n), .string (strOfNums p.v), .bool p.h] 84)) := by
  obtain ⟨i, hi, hz, hsz, hbt⟩ := infoPm
  have hbase : w.heap.size ≤ (wr.alloc (.cells #[.string (strOfNums p.n), .string (strOfNums p.v), .bool p.h] 84)).heap.size := by have := H.o.bw.size; simp; omega
  refine wpList_append_own _ hgd x y 63 ho w.heap.size 84 i _ 3 40 Tryz.underlying63 hi hz hsz hbt rfl (by omega) v l.length (pms l) hs (H.o.o.alloc _) ⟨wr.heap.size, 0, none⟩ 1 1 [.string (strOfNums p.n), .string (strOfNums p.v), .bool p.h] hy rfl (fun j u hu => ?_) (pm_one _ _ _) (by unfold maxLen; omega) ?_ hbase ?_
  · rw [Addr.add_mid, Nat.zero_add]
    exact ((Row.new wr 84 [.string (strOfNums p.n), .string (strOfNums p.v), .bool p.h]).cell j).trans hu
  · omega
  · intro v' w' h2 h3 _
    refine h v' w' (Lib.hid ⟨(H.c.alloc _).heap (h3.block cb (by rw [World.size_alloc]; have := H.c.lt; omega) (fun e => H.far cb e.symm rfl)), H.ge, ?_⟩)
    rw [pms_snoc, List.length_append]
    exact ⟨h2, (H.o.bw.alloc H.o.bw.size _).grown h3 hbase (own_block H.o.o)⟩
end Go.Proofs.YtcnkjgjimcddiaaGreatDoor
namespace Go.Proofs.YtcnkjgjimcddiaaGreatDoor
open Go.RowKit

def lenOf : Value → Nat
  | .slice _ n _ => n
  | _ => 0
def ParP (w : World) (R : Except (Nat × Int) (List Pm)) (e : Ending) (w' : World) : Prop := match R with
  | .error q => e = .returned (.tuple #[.slice none 0 0, .int .i64 (q.1 : Nat), .int .u8 q.2]) ∧ Below w.heap.size w w' ∧ q.2 ≠ 0
  | .ok l => ∃ v, e = .returned (.tuple #[v, .int .i64 0, .int .u8 0]) ∧ VX 84 3 w v l.length (pms l) w' ∧ l.length ≤ 16
theorem ParP.bad {w w' : World} {R : Except (Nat × Int) (List Pm)} {z : Nat} {k : Int} (h : R = .error (z, k)) (hk : k ≠ 0) (hb : Below w.heap.size w w') : ParP w R (.returned (.tuple #[.slice none 0 0, .int .i64 (z : Nat), .int .u8 k])) w' := by
  subst h; exact ⟨rfl, hb, hk⟩
theorem ParP.good {w w' : World} {R : Except (Nat × Int) (List Pm)} {l : List Pm} {v : Value} (h : R = .ok l) (hv : VX 84 3 w v l.length (pms l) w') (hl : l.length ≤ 16) : ParP w R (.returned (.tuple #[v, .int .i64 0, .int .u8 0])) w' := by
  subst h; exact ⟨v, rfl, hv, hl⟩
theorem roomL_zero {l : List Pm} {nm : List Int} (h : roomL l nm = 0) : l.length < 16 := by
  unfold roomL at h
  split at h
  · cases h
  · split at h
    · cases h
    · omega
def PRR (w : World) (cb : Nat) (s : ByteArray) (X : List Int) (R : Except (Nat × Int) (List Pm)) (v : Value) (wr : World) : Prop := ∃ (a f n c : Nat) (A : Option Addr) (l : List Pm), a ≤ s.size ∧ n ≤ 16 ∧ Hid (n = l.length) ∧ v = .slice A n c ∧ s.size + 1 ≤ f + a ∧ Hid (R = paramsN X f a l ∧ ∀ p ∈ l, By p.n) ∧ Hid (PS w cb s a l v wr)
set_option maxRecDepth 100000 in
set_option maxHeartbeats 2000000 in
theorem params_any (s : ByteArray) (w : World) (hs : s.size ≤ 4000000) (hB : ¬ (91 : Int) ∈ byteL s) : Calls Tryz.prog 56 #[.string s] w (ParP w (paramsL (byteL s))) := by
  have HL := Lib.hid (byteL_len s)
  have HBY := Lib.hid (byteL_by s)
  have PE := Lib.hid (show paramsL (byteL s) = paramsN (byteL s) (s.size + 1) 0 [] by unfold paramsL; rw [byteL_len])
  have LIS := Lib.hid (fun w b a h ha => listed_any w b a s h ha hs hB)
  have BLK := Lib.hid (fun w b a e h1 h2 (h3 : skipTo isBlank (byteL s) a = e) => show Calls Tryz.prog 71 #[.pointer (some ⟨b, 0, none⟩)] w fun r w' => r = .returned (.tuple #[]) ∧ CG w b s e w' by subst h3; exact curblanks_any w b a s h1 h2 hs)
  have SEE := Lib.hid (fun w b a c h1 => cursees_any w b a c s h1)
  have SKL := Lib.hid (fun a (h : a ≤ s.size) => show skipTo isBlank (byteL s) a ≤ s.size from by rw [← byteL_len s]; exact skip_le (by rw [byteL_len]; exact h))
  have SKG := Lib.hid (fun a => skip_ge isBlank (byteL s) a)
  have BAD := Lib.hid (fun w' z k h hk hb => ParP.bad (w := w) (w' := w') (R := paramsL (byteL s)) (z := z) (k := k) h hk hb)
  have GOOD := Lib.hid (fun w' l v h hv hl => ParP.good (w := w) (w' := w') (R := paramsL (byteL s)) (l := l) (v := v) h hv hl)
  generalize ParP w (paramsL (byteL s)) = PP at *
  generalize paramsL (byteL s) = R at *
  generalize byteL s = X at *
  clear hB
  have P0 := Lib.hid (show PS w w.heap.size s 0 [] (.slice none 0 0) (w.alloc (.cells #[.string s, .int .i64 0] 113)) from ⟨Row.new w 113 [.string s, .int .i64 0], Nat.le_refl _, (VX.nil _ _ w).step ((Below.refl w.heap.size w).alloc (Nat.le_refl _) _)⟩)
  go_enter Tryz.func56, Tryz.ntmps56
  go_wp2_with fail
  go_loopw [6] (fun v wr => PRR w w.heap.size s X R v wr) (fun v _ => 17 - lenOf v)
  case atStart => exact ⟨0, s.size + 1, 0, 0, none, [], Nat.zero_le _, Nat.zero_le _, Lib.hid rfl, rfl, by omega, Lib.hid ⟨PE.out, fun p hp => by cases hp⟩, P0⟩
  case round =>
    clear P0 PE
    obtain ⟨a, f, n, c, A, l, ha, hl16, hn, rfl, hf, HK, HP⟩ := hrel
    obtain ⟨f, rfl⟩ : ∃ g, f = g + 1 := ⟨f - 1, by omega⟩
    obtain ⟨a0, ha0⟩ : ∃ k, skipTo isBlank X a = k := ⟨_, rfl⟩
    obtain ⟨a1, ha1⟩ : ∃ k, skipTo isBlank X (a0 + 1) = k := ⟨_, rfl⟩
    have aa0 : a ≤ a0 := by rw [← ha0]; exact SKG.out a
    have a0s : a0 ≤ s.size := by rw [← ha0]; exact SKL.out a ha
    have A01 := Lib.hid (show a0 + 1 ≤ a1 by rw [← ha1]; exact SKG.out _)
    have A1S := Lib.hid (fun (h : a0 < s.size) => show a1 ≤ s.size by rw [← ha1]; exact SKL.out _ h)
    have EN := Lib.hid (fun h => paramsN_end (f := f) (l := l) ha0 h)
    have ES := Lib.hid (fun h h2 => paramsN_sep (f := f) (l := l) ha0 h h2)
    have EG := Lib.hid (fun h h2 => paramsN_go (f := f) (l := l) ha0 h h2 ha1)
    have HA0 := Lib.hid ha0; have HA1 := Lib.hid ha1
    clear ha0 ha1
    go_wp2_with fail
    refine (BLK.out wr w.heap.size a a0 HP.out.c ha HA0.out).mono ?_
    rintro e w1 ⟨rfl, hc⟩
    have P1 := Lib.hid (HP.out.cur hc)
    clear hc HP
    go_wp2_with fail
    refine (curended_any w1 w.heap.size a0 s P1.out.c).mono ?_
    rintro e w2 ⟨rfl, q, rfl⟩
    have P2 := Lib.hid (P1.out.call (below_drewN _ q))
    clear P1
    generalize w1.drewN q = w2 at *
    by_cases hE : s.size ≤ a0
    · rw [decide_eq_true hE]
      have E := Lib.hid (HK.out.1.trans (EN.out (by rw [HL.out]; exact hE)))
      clear EN ES EG
      go_wp2_with fail
      go_ret3
      exact GOOD.out _ _ _ E.out P2.out.o (by rw [← hn.out]; exact hl16)
    · rw [decide_eq_false hE]
      have hE2 : ¬ X.length ≤ a0 := by rw [HL.out]; exact hE
      have a0l : a0 < s.size := by omega
      have a1s := A1S.out a0l
      go_wp2_with fail
      refine (SEE.out w2 w.heap.size a0 59 P2.out.c).mono ?_
      rintro e w3 ⟨rfl, q3, rfl⟩
      have P3 := Lib.hid (P2.out.call (below_drewN _ q3))
      clear P2
      generalize w2.drewN q3 = w3 at *
      by_cases hS : X.getD a0 0 = 59
      case neg =>
        rw [seesB_no (fun h => hS h.2)]
        have E := Lib.hid (HK.out.1.trans (ES.out hE2 hS))
        clear EN ES EG
        have k1 := P3.out.c.cell 1
        simp only [List.getElem?_cons_succ, List.getElem?_cons_zero] at k1
        go_wp2_with fail
        go_quiet (fail)
        go_wp2_with fail
        go_ret3
        exact BAD.out _ _ _ E.out (by decide) (P3.out.o.drewN _).bw
      case pos =>
        rw [seesB_yes ⟨by omega, hS⟩]
        have EG2 := Lib.hid (HK.out.1.trans (EG.out hE2 hS))
        have k1 := P3.out.c.cell 1
        simp only [List.getElem?_cons_succ, List.getElem?_cons_zero] at k1
        have f1 := P3.out.c.frozen 1
        have P4 := Lib.hid (P3.out.cset (a0 + 1) (z := (a0 : Int) + 1) (by push_cast; rfl))
        clear EN ES EG hS hE hE2
        go_wp2_with fail
        clear k1 f1 P3
        generalize w3.setCell ⟨w.heap.size, 1, none⟩ (.int .i64 ((a0 : Int) + 1)) = w4 at *
        refine (BLK.out w4 w.heap.size (a0 + 1) a1 P4.out.c a0l HA1.out).mono ?_
        rintro e w5 ⟨rfl, hc⟩
        have P5 := Lib.hid (P4.out.cur hc)
        clear hc P4
        have k1 := P5.out.c.cell 1
        simp only [List.getElem?_cons_succ, List.getElem?_cons_zero] at k1
        go_wp2_with fail
        clear k1
        have LQ := Lib.hid (LIS.out w5 w.heap.size a1 P5.out.c a1s)
        have LOK := Lib.hid (fun p a' h => listedL_ok (X := X) (a := a1) (p := p) (a' := a') HBY.out (by rw [HL.out]; exact a1s) h)
        have LER := Lib.hid (fun z k h => listedL_err (X := X) (a := a1) (z := z) (k := k) h)
        refine LQ.out.mono ?_
        clear LQ
        intro e w6 hq
        have HQ := Lib.hid hq
        clear hq
        obtain ⟨L, hL⟩ : ∃ L, listedL X a1 = L := ⟨_, rfl⟩
        rw [hL] at EG2 HQ LOK LER
        clear hL
        cases L with
        | error q =>
          obtain ⟨z, k⟩ := q
          obtain ⟨rfl, a', hc⟩ := HQ.out
          have P6 := Lib.hid (P5.out.cur hc)
          have hk := LER.out z k rfl
          have hkb : (k == 0) = false := by simp [hk]
          have hkn : (k != 0) = true := by simp [hk]
          have BN := Lib.hid ((Below.refl w6.heap.size w6).alloc (Nat.le_refl _) (.cells #[.string ⟨#[]⟩, .string ⟨#[]⟩, .bool false] 84))
          clear hc HQ LOK LER
          go_wp2_with fail
          go_ret3
          exact BAD.out _ _ _ EG2.out hk (P6.out.call BN.out).o.bw
        | ok q =>
          obtain ⟨p, a2⟩ := q
          obtain ⟨rfl, hc⟩ := HQ.out
          have P6 := Lib.hid (P5.out.cur hc)
          obtain ⟨pn, pv, ph⟩ := p
          have OK := Lib.hid (LOK.out _ _ rfl)
          dsimp only at OK
          have EG3 := Lib.hid (show R = if roomL l pn ≠ 0 then .error (a1, roomL l pn) else paramsN X f a2 (l ++ [⟨pn, pv, ph⟩]) from EG2.out)
          have BN := Lib.hid ((Below.refl w6.heap.size w6).alloc (Nat.le_refl _) (.cells #[.string (strOfNums pn), .string (strOfNums pv), .bool ph] 84))
          have P7 := Lib.hid (P6.out.call BN.out)
          have RP := Lib.hid (Row.new w6 84 [.string (strOfNums pn), .string (strOfNums pv), .bool ph])
          clear hc HQ LOK LER EG2 P6 BN P5
          dsimp only
          go_upto_region 12 with (fail)
          generalize w6.alloc (.cells #[.string (strOfNums pn), .string (strOfNums pv), .bool ph] 84) = w7 at *
          generalize w6.heap.size = pb at *
          have k0 := RP.out.cell 0
          simp only [List.getElem?_cons_succ, List.getElem?_cons_zero] at k0
          go_wp2_with fail
          clear k0
          obtain ⟨A', c', hv, _, hR⟩ := pms_rds P7.out.o
          injection hv with hv1 hv2 hv3
          subst hv1; subst hv3
          refine (room_any A n c l pn w7 hR hn.out.symm (by omega) HK.out.2 OK.out.1).mono ?_
          rintro e w8 ⟨rfl, hb⟩
          have P8 := Lib.hid (P7.out.call hb)
          have RP8 := Lib.hid (RP.out.below hb)
          clear hb P7 RP hR hv2
          by_cases hr : roomL l pn = 0
          · have E := Lib.hid (EG3.out.trans (if_neg (fun h => h hr)))
            have l15 : n < 16 := by rw [hn.out]; exact roomL_zero hr
            rw [hr]
            clear EG3 hr
            go_wp2_with (first
              | (with_reducible refine wpList_loadR rfl 84 (.tmp 8) rfl RP8.out rfl Tryz.underlying84 rfl (sizePm _ _ _) ?_)
              | (with_reducible refine wpList_pushC rfl (.tmp 44) (.tmp 46) rfl rfl P8.out ⟨pn, pv, ph⟩ rfl (by have := hn.out; omega) ?_))
            intro v' w9 P9
            obtain ⟨A9, c9, hv9, _, _⟩ := pms_rds P9.out.o
            subst hv9
            go_wp2_with fail
            go_roundw
            case rel =>
              have h5 := OK.out.2.2.2.2
              have hln : (l ++ [(⟨pn, pv, ph⟩ : Pm)]).length = n + 1 := by rw [hn.out]; simp
              exact ⟨a2, f, _, c9, A9, l ++ [⟨pn, pv, ph⟩], by have := HL.out; omega, by omega, Lib.hid rfl, rfl, by have := A01.out; omega, Lib.hid ⟨E.out, fun p hp => by
                rcases List.mem_append.1 hp with h | h
                · exact HK.out.2 p h
                · rw [List.mem_singleton] at h
                  subst h
                  exact OK.out.1⟩, P9⟩
            case measure =>
              have hln : (l ++ [(⟨pn, pv, ph⟩ : Pm)]).length = n + 1 := by rw [hn.out]; simp
              simp only [lenOf]
              omega
          · have E := Lib.hid (EG3.out.trans (if_pos hr))
            have hkn : (roomL l pn != 0) = true := by simp [hr]
            go_wp2_with fail
            go_ret3
            exact BAD.out _ _ _ E.out hr P8.out.o.bw
end Go.Proofs.YtcnkjgjimcddiaaGreatDoor
