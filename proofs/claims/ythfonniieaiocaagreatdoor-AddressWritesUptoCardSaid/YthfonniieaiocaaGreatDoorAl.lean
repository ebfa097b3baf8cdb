/- Contracts: address's holds, room; Params, where the text has no bracket. And what stands behind it. -/
import Derived.Test.YthfonniieaiocaaGreatDoorAe
import Derived.Test.YthfonniieaiocaaGreatDoorCh
set_option linter.unusedVariables false
set_option linter.unusedSimpArgs false
set_option maxRecDepth 100000
namespace Go.Proofs.YthfonniieaiocaaGreatDoor
open Go.RowKit

def pmC (p : Pm) : List Value := [.string (strOfNums p.n), .string (strOfNums p.v), .bool p.h]
def pms (l : List Pm) : List Value := l.flatMap pmC
theorem pms_snoc (l : List Pm) (p : Pm) : pms (l ++ [p]) = pms l ++ pmC p := by simp [pms]
theorem pms_len (l : List Pm) : (pms l).length = l.length * 3 := by
  unfold pms
  rw [List.length_flatMap, show (l.map fun a => (pmC a).length) = l.map (fun _ => 3) from List.map_congr_left fun _ _ => rfl]
  simp [List.map_const', Nat.mul_comm]
theorem pms_at {l : List Pm} {k : Nat} {p : Pm} (h : l[k]? = some p) : ∀ j u, (pmC p)[j]? = some u → (pms l)[k * 3 + j]? = some u := fun j u hu => by
  have hj : j < 3 := (List.getElem?_eq_some_iff.1 hu).1
  rw [← hu]
  exact flat_at pmC 3 (fun _ => rfl) l k j p h hj
theorem infoPm : ∃ i, Tryz.prog.info? 56 = some i ∧ i.zero = some (.agg #[.string ⟨#[]⟩, .string ⟨#[]⟩, .bool false]) ∧ i.size = 3 ∧ i.bytes = 40 := by
  have h : (Tryz.prog.info? 56).map (fun i => (i.size, i.zero, i.bytes)) = some (3, some (.agg #[.string ⟨#[]⟩, .string ⟨#[]⟩, .bool false]), 40) := by kernel_rfl
  rw [Option.map_eq_some_iff] at h
  obtain ⟨i, hi, he⟩ := h
  injection he with h1 h2
  injection h2 with h2 h3
  exact ⟨i, hi, h2, h1, h3⟩
theorem pms_rds {w wr : World} {v : Value} {n : Nat} {cs : List Value} {T : TypeId} {sz : Nat} (H : VX T sz w v n cs wr) : ∃ A c, v = .slice A n c ∧ n ≤ c ∧ Rds wr wr.heap.size A cs := by
  rcases H.form with ⟨rfl, rfl, rfl⟩ | ⟨g, cap, rfl, hc, _, hg, hcell⟩
  · exact ⟨none, 0, rfl, Nat.le_refl _, fun h => absurd h (by simp)⟩
  · exact ⟨_, cap, rfl, hc, fun _ => ⟨g, 0, rfl, hg, fun j u hu => by rw [Nat.zero_add]; exact hcell j u hu⟩⟩
def eqPm (nm : List Int) (p : Pm) : Bool := p.n == nm
theorem hitp_any (n v nm : List Int) (h : Bool) (b : Nat) (w : World) (hn : By n) (hm : By nm) (hb : w.cell? ⟨b, 0, none⟩ = some (.string (strOfNums nm))) :
    Calls Tryz.prog 157 #[.agg #[.string (strOfNums n), .string (strOfNums v), .bool h], .pointer (some ⟨b, 0, none⟩)] w fun e w' => e = .returned (.bool (n == nm)) ∧ Below w.heap.size w w' := by
  have B0 := kd ((Below.refl w.heap.size w).alloc (Nat.le_refl _) (.cells #[.string (strOfNums n), .string (strOfNums v), .bool h] 56))
  have c1 : (w.alloc (.cells #[.string (strOfNums n), .string (strOfNums v), .bool h] 56)).cell? ⟨b, 0, none⟩ = some (.string (strOfNums nm)) := (B0.out.cell (World.block_lt_of_cell? w _ hb)).trans hb
  have c0 : (w.alloc (.cells #[.string (strOfNums n), .string (strOfNums v), .bool h] 56)).cell? ⟨w.heap.size, 0, none⟩ = some (.string (strOfNums n)) := (Row.new w 56 [.string (strOfNums n), .string (strOfNums v), .bool h]).cell 0
  have E := kd (getD_beq hn hm)
  clear hb
  go_enter Tryz.func157, Tryz.ntmps157
  go_wp2_with fail
  go_ret
  exact ⟨ret_bool E.out, B0.out⟩
def missPm (l : List Pm) (nm : List Int) (k : Nat) : Prop := ∀ j p, j < k → l[j]? = some p → eqPm nm p = false
theorem missPm_succ {l : List Pm} {nm : List Int} {k : Nat} {p : Pm} (h : missPm l nm k) (hp : l[k]? = some p) (hq : eqPm nm p = false) : missPm l nm (k + 1) := fun j q hj hqj => by
  rcases Nat.lt_or_ge j k with h1 | h1
  · exact h j q h1 hqj
  · obtain rfl : j = k := by omega
    obtain rfl := Option.some.inj (hp.symm.trans hqj)
    exact hq
theorem findPm_some {l : List Pm} {nm : List Int} {k : Nat} {p : Pm} (h : missPm l nm k) (hp : l[k]? = some p) (hq : eqPm nm p = true) : l.findIdx? (eqPm nm) = some k := by
  obtain ⟨h1, h2⟩ := List.getElem?_eq_some_iff.1 hp
  rw [List.findIdx?_eq_some_iff_getElem]
  refine ⟨h1, by rw [h2]; exact hq, fun j hj => ?_⟩
  have := h j _ hj (List.getElem?_eq_getElem (by omega))
  simp [this]
theorem findPm_none {l : List Pm} {nm : List Int} (h : missPm l nm l.length) : l.findIdx? (eqPm nm) = none := by
  rw [List.findIdx?_eq_none_iff]
  intro p hp
  obtain ⟨j, hj⟩ := List.mem_iff_getElem?.1 hp
  exact h j p (List.getElem?_eq_some_iff.1 hj).1 hj
theorem holdsL_find (l : List Pm) (nm : List Int) : holdsL l nm = (l.findIdx? (eqPm nm)).isSome := by
  unfold holdsL
  rw [List.findIdx?_isSome]
  rfl
theorem indexp_any (A : Option Addr) (n c b : Nat) (l : List Pm) (nm : List Int) (w : World) (hA : Rds w w.heap.size A (pms l)) (hn : l.length = n) (hN : n ≤ 16000000) (hl : ∀ p ∈ l, By p.n) (hm : By nm) (hb : w.cell? ⟨b, 0, none⟩ = some (.string (strOfNums nm))) :
    Calls Tryz.prog 184 #[.slice A n c, .func (.func 157) #[] #[.pointer (some ⟨b, 0, none⟩)]] w fun e w' => e = .returned (idxV (l.findIdx? (eqPm nm))) ∧ Below w.heap.size w w' := by
  have HA := kd hA; have HN := kd hn; have HB := kd hb; have HL := kd hl; have HM := kd hm
  clear hA hn hb hl hm
  go_enter Tryz.func184, Tryz.ntmps184
  go_wp2_with fail
  go_loopw [8] (fun v wr => ∃ k : Nat, k ≤ n ∧ v = .int .i64 k ∧ Hid (missPm l nm k) ∧ Hid (Below w.heap.size w wr)) (fun v _ => n - (intOf v).toNat)
  case atStart => exact ⟨0, Nat.zero_le _, rfl, kd (fun _ _ h => absurd h (Nat.not_lt_zero _)), kd (Below.refl _ _)⟩
  case round =>
    obtain ⟨k, hk, rfl, HK, BR⟩ := hrel
    by_cases hlt : k < n
    · have hd : decide (k < n) = true := by simp [hlt]
      have hd2 : decide ((k : Int) < (n : Int)) = true := by simp; omega
      obtain ⟨p, hp⟩ : ∃ p, l[k]? = some p := ⟨_, List.getElem?_eq_getElem (by rw [HN.out]; exact hlt)⟩
      obtain ⟨x1, o1, rfl, hx1, hc1⟩ := HA.out (by rw [pms_len, HN.out]; omega)
      have G1 := kd (show wr.rangeAt x1 (o1 + k * 3) (pmC p) from fun j v hv => (BR.out.cell (p := ⟨x1, _, none⟩) hx1).trans (Rds.range2 hc1 (k * 3) _ (pms_at hp) j v hv))
      have cb := (BR.out.cell (World.block_lt_of_cell? w _ HB.out)).trans HB.out
      have HI := kd (hitp_any p.n p.v nm p.h b wr (HL.out p (List.mem_of_getElem? hp)) HM.out cb)
      have KS := kd (fun h => missPm_succ HK.out hp h)
      have KF := kd (fun h => findPm_some HK.out hp h)
      clear hc1 hp HK cb
      obtain ⟨pn, pv, ph⟩ := p
      dsimp only at HI
      have G2 := kd (show wr.rangeAt x1 (o1 + k * 3) [.string (strOfNums pn), .string (strOfNums pv), .bool ph] from G1.out)
      clear G1
      go_wp2_with (with_reducible refine wpList_load_mid rfl 56 (.tmp 14) rfl x1 (o1 + k * 3) rfl [.string (strOfNums pn), .string (strOfNums pv), .bool ph] _ G2.out Tryz.underlying56 rfl (sizePm _ _ _) ?_)
      refine HI.out.mono ?_
      rintro e w' ⟨rfl, hb'⟩
      have B2 := kd (bthen BR.out hb')
      clear hb' G2 HI
      cases hq : (pn == nm) with
      | true =>
        have E := kd (KF.out hq)
        clear KS KF hq
        go_wp2_with fail
        go_ret
        exact ⟨by rw [E.out]; rfl, B2.out⟩
      | false =>
        have K2 := kd (KS.out hq)
        clear KS KF hq
        go_wp2_with fail
        go_roundw
        case rel => exact ⟨k + 1, by omega, by go_num, K2, B2⟩
        case measure => simp [intOf]; omega
    · obtain rfl : k = n := by omega
      have E := kd (findPm_none (show missPm l nm l.length by rw [HN.out]; exact HK.out))
      go_wp2_with fail
      go_ret
      exact ⟨by rw [E.out]; rfl, BR.out⟩
theorem idxV_ge (X : Option Nat) : ∃ z : Int, idxV X = .int .i64 z ∧ decide (0 ≤ z) = X.isSome := by
  cases X with
  | none => exact ⟨-1, rfl, rfl⟩
  | some k => exact ⟨k, rfl, by simp⟩
theorem containsp_any (A : Option Addr) (n c b : Nat) (l : List Pm) (nm : List Int) (w : World) (hA : Rds w w.heap.size A (pms l)) (hn : l.length = n) (hN : n ≤ 16000000) (hl : ∀ p ∈ l, By p.n) (hm : By nm) (hb : w.cell? ⟨b, 0, none⟩ = some (.string (strOfNums nm))) :
    Calls Tryz.prog 156 #[.slice A n c, .func (.func 157) #[] #[.pointer (some ⟨b, 0, none⟩)]] w fun e w' => e = .returned (.bool (holdsL l nm)) ∧ Below w.heap.size w w' := by
  have IX := kd (indexp_any A n c b l nm w hA hn hN hl hm hb)
  obtain ⟨z, hz, hz2⟩ := idxV_ge (l.findIdx? (eqPm nm))
  rw [hz] at IX
  have E := kd (hz2.trans (holdsL_find l nm).symm)
  clear hA hn hl hm hb hz hz2
  go_enter Tryz.func156, Tryz.ntmps156
  go_wp2_with fail
  refine IX.out.mono ?_
  rintro e w1 ⟨rfl, hb⟩
  have B1 := kd hb
  clear hb IX
  go_wp2_with fail
  go_ret
  exact ⟨ret_bool E.out, B1.out⟩
theorem holds_any (A : Option Addr) (n c : Nat) (l : List Pm) (nm : List Int) (w : World) (hA : Rds w w.heap.size A (pms l)) (hn : l.length = n) (hN : n ≤ 16000000) (hl : ∀ p ∈ l, By p.n) (hm : By nm) :
    Calls Tryz.prog 110 #[.slice A n c, .string (strOfNums nm)] w fun e w' => e = .returned (.bool (holdsL l nm)) ∧ Below w.heap.size w w' := by
  have B0 := kd ((Below.refl w.heap.size w).alloc (Nat.le_refl _) (.cells #[.string (strOfNums nm)] 9))
  have HA := kd ((hA.below B0.out).up B0.out.size); have HN := kd hn; have HL := kd hl; have HM := kd hm
  have c0 : (w.alloc (.cells #[.string (strOfNums nm)] 9)).cell? ⟨w.heap.size, 0, none⟩ = some (.string (strOfNums nm)) := (Row.new w 9 [.string (strOfNums nm)]).cell 0
  have IX := kd (containsp_any A n c w.heap.size l nm _ HA.out hn hN hl hm c0)
  clear hA hn hl hm HA c0
  generalize holdsL l nm = H at *
  go_enter Tryz.func110, Tryz.ntmps110
  go_wp2_with fail
  refine IX.out.mono ?_
  rintro e w1 ⟨rfl, hb⟩
  have B1 := kd (bthen B0.out hb)
  clear hb IX
  go_wp2_with fail
  go_ret
  exact ⟨rfl, B1.out⟩
theorem roomL_held {l : List Pm} {nm : List Int} (h : holdsL l nm = true) : roomL l nm = 7 := if_pos h
theorem roomL_full {l : List Pm} {nm : List Int} (h : holdsL l nm = false) (h2 : 16 ≤ l.length) : roomL l nm = 4 := by unfold roomL; rw [if_neg (by rw [h]; decide), if_pos h2]
theorem roomL_ok {l : List Pm} {nm : List Int} (h : holdsL l nm = false) (h2 : ¬ 16 ≤ l.length) : roomL l nm = 0 := by unfold roomL; rw [if_neg (by rw [h]; decide), if_neg h2]
theorem room_any (A : Option Addr) (n c : Nat) (l : List Pm) (nm : List Int) (w : World) (hA : Rds w w.heap.size A (pms l)) (hn : l.length = n) (hN : n ≤ 16000000) (hl : ∀ p ∈ l, By p.n) (hm : By nm) :
    Calls Tryz.prog 108 #[.slice A n c, .string (strOfNums nm)] w fun e w' => e = .returned (.int .u8 (roomL l nm)) ∧ Below w.heap.size w w' := by
  have HH := kd (holds_any A n c l nm w hA hn hN hl hm)
  have E1 := kd (fun h => roomL_held (l := l) (nm := nm) h); have E2 := kd (fun h (h2 : 16 ≤ n) => roomL_full (l := l) (nm := nm) h (by rw [hn]; exact h2)); have E3 := kd (fun h (h2 : ¬ 16 ≤ n) => roomL_ok (l := l) (nm := nm) h (by rw [hn]; exact h2))
  clear hA hn hl hm
  generalize roomL l nm = R at *
  generalize holdsL l nm = H at *
  go_enter Tryz.func108, Tryz.ntmps108
  go_wp2_with fail
  refine HH.out.mono ?_
  rintro e w1 ⟨rfl, hb⟩
  have B1 := kd hb
  clear hb HH
  cases H with
  | true =>
    have E := kd (E1.out rfl)
    go_wp2_with fail
    go_ret
    exact ⟨by rw [E.out]; rfl, B1.out⟩
  | false =>
    by_cases h16 : 16 ≤ n
    · have d : decide ((16 : Int) ≤ (n : Int)) = true := by simp; omega
      have E := kd (E2.out rfl h16)
      go_wp2_with fail
      go_ret
      exact ⟨by rw [E.out]; rfl, B1.out⟩
    · have d : decide ((16 : Int) ≤ (n : Int)) = false := by simp; omega
      have E := kd (E3.out rfl h16)
      go_wp2_with fail
      go_ret
      exact ⟨by rw [E.out]; rfl, B1.out⟩

structure PS (w : World) (cb : Nat) (s : ByteArray) (a : Nat) (l : List Pm) (v : Value) (wr : World) : Prop where
  c : Row wr cb 84 [.string s, .int .i64 a]
  ge : w.heap.size ≤ cb
  o : VX 56 3 w v l.length (pms l) wr
theorem VX.row {T : TypeId} {sz : Nat} {w wr : World} {v : Value} {n : Nat} {cs : List Value} {g : Nat} (H : VX T sz w v n cs wr) (hg : v.ownBlock = some g) : ∃ cur : Array Value, wr.heap[g]? = some (.cells cur T (0, 0)) := by
  rcases H.o.2 with ⟨rfl, _⟩ | ⟨g2, cap, cur, rfl, _, hb, _⟩
  · cases hg
  · cases hg
    exact ⟨cur, hb⟩
theorem PS.far {w wr : World} {cb a : Nat} {s : ByteArray} {l : List Pm} {v : Value} (h : PS w cb s a l v wr) : ∀ g, v.ownBlock = some g → g ≠ cb := fun g hg e => by
  obtain ⟨cur, h1⟩ := h.o.row hg
  have h2 := h.c
  unfold Row at h2
  rw [e, h2] at h1
  injection h1 with h1
  injection h1 with _ h1
  exact absurd h1 (by decide)
section
variable {w wr w' : World} {cb a a' : Nat} {s : ByteArray} {l : List Pm} {v : Value}
theorem PS.call (h : PS w cb s a l v wr) (hb : Below wr.heap.size wr w') : PS w cb s a l v w' := ⟨h.c.below hb, h.ge, h.o.step hb⟩
theorem PS.cur (h : PS w cb s a l v wr) (hg : CG wr cb s a' w') : PS w cb s a' l v w' :=
  ⟨hg.r, h.ge, h.o.other (h.o.bw.grown hg.g h.o.bw.size (fun k hk => by cases hk; exact h.ge)) (fun g hv => hg.g.block g (by
    obtain ⟨cur, h1⟩ := h.o.row hv
    exact lt_of_block h1) (fun e => h.far g hv (by injection e)))⟩
theorem PS.cset (h : PS w cb s a l v wr) (a' : Nat) {z : Int} (hz : z = a') : PS w cb s a' l v (wr.setCell ⟨cb, 1, none⟩ (.int .i64 z)) := h.cur ((CG.refl h.c).set a' hz)
end
theorem wpList_pushC {w wr : World} {cb a0 : Nat} {s : ByteArray} {l : List Pm} {v : Value} {ops : Array Oper} {rest : List Oper} {o : Oper} {a : Act} {Q : Exit → Act → World → Prop} (hgd : o.guard = none) (x y : Operand)
    (ho : o.op = .call { callee := .builtin .append, args := #[x, y], argTypes := #[30, 30] }) (hs : a.eval x = v) (H : PS w cb s a0 l v wr) (p : Pm) (hy : a.eval y = .slice (some ⟨wr.heap.size, 0, none⟩) 1 1) (hb : l.length + 1 ≤ 16777216)
    (h : ∀ v' w', Hid (PS w cb s a0 (l ++ [p]) v' w') → wpList Tryz.prog ops Q rest (a.put o.dst v') w') : wpList Tryz.prog ops Q (o :: rest) a (wr.alloc (.cells #[.string (strOfNums p.n), .string (strOfNums p.v), .bool p.h] 56)) := by
  obtain ⟨i, hi, hz, hsz, hbt⟩ := infoPm
  have hbase : w.heap.size ≤ (wr.alloc (.cells #[.string (strOfNums p.n), .string (strOfNums p.v), .bool p.h] 56)).heap.size := by have := H.o.bw.size; simp; omega
  refine wpList_append_own _ hgd x y 30 ho w.heap.size 56 i _ 3 40 Tryz.underlying30 hi hz hsz hbt rfl (by omega) v l.length (pms l) hs (H.o.o.alloc _) ⟨wr.heap.size, 0, none⟩ 1 1 [.string (strOfNums p.n), .string (strOfNums p.v), .bool p.h] hy rfl (fun j u hu => ?_) (pm_one _ _ _) (by unfold maxLen; omega) ?_ hbase ?_
  · rw [Addr.add_mid, Nat.zero_add]
    exact ((Row.new wr 56 [.string (strOfNums p.n), .string (strOfNums p.v), .bool p.h]).cell j).trans hu
  · omega
  · intro v' w' h2 h3 _
    refine h v' w' (kd ⟨(H.c.alloc _).heap (h3.block cb (by rw [World.size_alloc]; have := H.c.lt; omega) (fun e => H.far cb e.symm rfl)), H.ge, ?_⟩)
    rw [pms_snoc, List.length_append]
    exact ⟨h2, (H.o.bw.alloc H.o.bw.size _).grown h3 hbase (own_block H.o.o)⟩

def lenOf : Value → Nat
  | .slice _ n _ => n
  | _ => 0
def ParP (w : World) (R : Except (Nat × Int) (List Pm)) (e : Ending) (w' : World) : Prop := match R with
  | .error q => e = .returned (.tuple #[.slice none 0 0, .int .i64 (q.1 : Nat), .int .u8 q.2]) ∧ Below w.heap.size w w' ∧ q.2 ≠ 0
  | .ok l => ∃ v, e = .returned (.tuple #[v, .int .i64 0, .int .u8 0]) ∧ VX 56 3 w v l.length (pms l) w' ∧ l.length ≤ 16
theorem ParP.bad {w w' : World} {R : Except (Nat × Int) (List Pm)} {z : Nat} {k : Int} (h : R = .error (z, k)) (hk : k ≠ 0) (hb : Below w.heap.size w w') : ParP w R (.returned (.tuple #[.slice none 0 0, .int .i64 (z : Nat), .int .u8 k])) w' := by
  subst h; exact ⟨rfl, hb, hk⟩
theorem ParP.good {w w' : World} {R : Except (Nat × Int) (List Pm)} {l : List Pm} {v : Value} (h : R = .ok l) (hv : VX 56 3 w v l.length (pms l) w') (hl : l.length ≤ 16) : ParP w R (.returned (.tuple #[v, .int .i64 0, .int .u8 0])) w' := by
  subst h; exact ⟨v, rfl, hv, hl⟩
theorem roomL_zero {l : List Pm} {nm : List Int} (h : roomL l nm = 0) : l.length < 16 := by
  unfold roomL at h
  split at h
  · cases h
  · split at h
    · cases h
    · omega

theorem valL_le10 {l : List Int} (h : l.all isDig = true) (hl : l.length ≤ 10) : 0 ≤ valL l ∧ valL l ≤ 9999999999 := by
  obtain ⟨h1, h2⟩ := valL_range l h
  have h3 : (10 : Int) ^ l.length ≤ 10 ^ 10 := by exact_mod_cast Nat.pow_le_pow_right (by decide) hl
  exact ⟨h1, by have h4 : (10 : Int) ^ 10 = 10000000000 := by decide
                omega⟩
theorem decnL_len {xs : List Int} (h : xs.length < 1 ∨ 10 < xs.length) : decnL xs = (0, 5) := by
  unfold decnL
  rw [if_pos (by rcases h with h | h; exact .inl h; exact .inr (.inl h))]
theorem decnL_bad {xs : List Int} (h : xs.all isDig = false) : decnL xs = (0, 5) := by
  unfold decnL
  rw [if_pos (.inr (.inr h))]
theorem decnL_big {xs : List Int} (h0 : 1 ≤ xs.length) (h1 : xs.length ≤ 10) (h : xs.all isDig = true) (hb : 2147483647 < valL xs) : decnL xs = (0, 3) := by
  unfold decnL
  rw [if_neg (by rintro (a | a | a); omega; omega; rw [h] at a; cases a), if_pos hb]
theorem decnL_ok {xs : List Int} (h0 : 1 ≤ xs.length) (h1 : xs.length ≤ 10) (h : xs.all isDig = true) (hb : ¬ 2147483647 < valL xs) : decnL xs = (valL xs, 0) := by
  unfold decnL
  rw [if_neg (by rintro (a | a | a); omega; omega; rw [h] at a; cases a), if_neg hb]
def decV (p : Int × Int) : Value := .tuple #[.int .i64 p.1, .int .u8 p.2]
set_option maxHeartbeats 1000000 in
theorem number_any (s : ByteArray) (w : World) : Calls Tryz.prog 133 #[.string s] w fun e w' => e = .returned (decV (decnL (byteL s))) ∧ w = w' := by
  have HL := kd (byteL_len s)
  have HB := kd (byteL_by s)
  have IDX := kd (fun (i : Nat) (h : i < s.size) (w : World) => idx_str s (i := i) h (z := (i : Int)) rfl w)
  have E0 := kd (fun h => decnL_len (xs := byteL s) h)
  have E1 := kd (fun h => decnL_bad (xs := byteL s) h)
  have E2 := kd (fun h0 h1 h h2 => decnL_big (xs := byteL s) h0 h1 h h2)
  have E3 := kd (fun h0 h1 h h2 => decnL_ok (xs := byteL s) h0 h1 h h2)
  generalize decnL (byteL s) = D at *
  generalize byteL s = X at *
  by_cases h0 : s.size < 1
  · have hd : decide ((s.size : Int) < 1) = true := by simp; omega
    have E := kd (E0.out (.inl (by rw [HL.out]; exact h0)))
    go_enter Tryz.func133, Tryz.ntmps133
    go_wp2_with fail
    go_ret2
    exact ⟨by rw [E.out]; rfl, rfl⟩
  · have hd : decide ((s.size : Int) < 1) = false := by simp; omega
    by_cases h1 : 10 < s.size
    · have hd1 : decide ((10 : Int) < (s.size : Int)) = true := by simp; omega
      have E := kd (E0.out (.inr (by rw [HL.out]; exact h1)))
      go_enter Tryz.func133, Tryz.ntmps133
      go_wp2_with fail
      go_ret2
      exact ⟨by rw [E.out]; rfl, rfl⟩
    · have hd1 : decide ((10 : Int) < (s.size : Int)) = false := by simp; omega
      have s1 : 1 ≤ s.size := by omega
      have s10 : s.size ≤ 10 := by omega
      go_enter Tryz.func133, Tryz.ntmps133
      go_wp2_with fail
      clear hd hd1 h0 h1 E0
      go_loop [4, 16] (fun vn vi => ∃ k : Nat, k ≤ s.size ∧ vi = .int .i64 k ∧ ∃ m : Int, vn = .int .i64 m ∧ 0 ≤ m ∧ m ≤ 9999999999 ∧ Hid (m = valL (X.take k) ∧ (X.take k).all isDig = true)) (fun vn vi => s.size - (intOf vi).toNat)
      case atStart => exact ⟨0, Nat.zero_le _, rfl, 0, rfl, by decide, by decide, kd ⟨rfl, rfl⟩⟩
      case round =>
        obtain ⟨k, hk, rfl, m, rfl, m0, m1, HK⟩ := hrel
        by_cases hlt : k < s.size
        · have hd : decide ((k : Int) < (s.size : Int)) = true := by simp; omega
          have dx := IDX.out k hlt
          have hkX : k < X.length := by rw [HL.out]; exact hlt
          have hx := HB.out _ (getD_mem hkX)
          have BAD := kd (fun h => E1.out (all_no (p := isDig) hkX h))
          have NXT := kd (fun (h : isDig (X.getD k 0) = true) => show (10 * m + (X.getD k 0 - 48)) = valL (X.take (k + 1)) ∧ (X.take (k + 1)).all isDig = true by
            rw [all_take_succ hkX, HK.out.2, h, take_snocI X hkX, valL_snoc, ← HK.out.1]
            exact ⟨rfl, rfl⟩)
          have NL := kd (show (X.take (k + 1)).length ≤ 10 by rw [List.length_take]; omega)
          clear hkX
          generalize X.getD k 0 = x at *
          by_cases h48 : x < 48
          · have d1 : decide (x < 48) = true := by simp [h48]
            have E := kd (BAD.out (by unfold isDig; simp; omega))
            go_wp2_with fail
            go_ret2
            exact ⟨by rw [E.out]; rfl, rfl⟩
          · have d1 : decide (x < 48) = false := by simpa using h48
            by_cases h57 : 57 < x
            · have d2 : decide (57 < x) = true := by simp [h57]
              have E := kd (BAD.out (by unfold isDig; simp; omega))
              go_wp2_with fail
              go_ret2
              exact ⟨by rw [E.out]; rfl, rfl⟩
            · have d2 : decide (57 < x) = false := by simpa using h57
              have x0 : 48 ≤ x := by omega
              have x1 : x ≤ 57 := by omega
              have N := NXT.out (by unfold isDig; simp; omega)
              have NB := valL_le10 N.2 NL.out
              rw [← N.1] at NB
              have NH := kd N
              obtain ⟨b0, b1⟩ := NB
              clear h48 h57 hx N BAD NXT NL
              go_wp2_with fail
              go_roundw
              case rel => exact ⟨k + 1, by omega, by go_num, 10 * m + (x - 48), by go_num, b0, b1, NH⟩
              case measure => simp [intOf]; omega
        · obtain rfl : k = s.size := by omega
          have TK : X.take s.size = X := List.take_of_length_le (by rw [HL.out]; exact Nat.le_refl _)
          rw [TK] at HK
          clear IDX HB E1
          by_cases hb : 2147483647 < m
          · have d1 : decide (2147483647 < m) = true := by simp [hb]
            have E := kd (E2.out (by rw [HL.out]; exact s1) (by rw [HL.out]; exact s10) HK.out.2 (by rw [← HK.out.1]; exact hb))
            go_wp2_with fail
            go_ret2
            exact ⟨by rw [E.out]; rfl, rfl⟩
          · have d1 : decide (2147483647 < m) = false := by simpa using hb
            have E := kd (E3.out (by rw [HL.out]; exact s1) (by rw [HL.out]; exact s10) HK.out.2 (by rw [← HK.out.1]; omega))
            rw [← HK.out.1] at E
            have hb2 : m ≤ 2147483647 := by omega
            clear hb
            go_wp2_with fail
            go_ret2
            exact ⟨by rw [E.out]; rfl, rfl⟩

def ItemP (w : World) (R : Except Int (List Int × List Pm)) (e : Ending) (w' : World) : Prop := match R with
  | .error k => e = .returned (.tuple #[.agg #[.string ⟨#[]⟩, .slice none 0 0], .int .u8 k]) ∧ Below w.heap.size w w' ∧ k ≠ 0
  | .ok q => ∃ A c, e = .returned (.tuple #[.agg #[.string (strOfNums q.1), .slice A q.2.length c], .int .u8 0]) ∧ Below w.heap.size w w' ∧ Rds w' w'.heap.size A (pms q.2) ∧ q.2.length ≤ 16 ∧ q.2.length ≤ c ∧ ∀ b o s, A = some ⟨b, o, s⟩ → w.heap.size ≤ b
theorem ItemP.bad {w w' : World} {R : Except Int (List Int × List Pm)} {k : Int} (h : R = .error k) (hk : k ≠ 0) (hb : Below w.heap.size w w') : ItemP w R (.returned (.tuple #[.agg #[.string ⟨#[]⟩, .slice none 0 0], .int .u8 k])) w' := by
  subst h; exact ⟨rfl, hb, hk⟩
theorem ItemP.good {w w' : World} {R : Except Int (List Int × List Pm)} {t : List Int} {l : List Pm} {A : Option Addr} {c : Nat} (h : R = .ok (t, l)) (hb : Below w.heap.size w w') (hr : Rds w' w'.heap.size A (pms l)) (hl : l.length ≤ 16) (hc : l.length ≤ c) (hf : ∀ b o s, A = some ⟨b, o, s⟩ → w.heap.size ≤ b) : ItemP w R (.returned (.tuple #[.agg #[.string (strOfNums t), .slice A l.length c], .int .u8 0])) w' := by
  subst h; exact ⟨A, c, rfl, hb, hr, hl, hc, hf⟩
end Go.Proofs.YthfonniieaiocaaGreatDoor
