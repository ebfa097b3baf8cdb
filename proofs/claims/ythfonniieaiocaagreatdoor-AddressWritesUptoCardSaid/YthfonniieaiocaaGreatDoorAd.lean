/- A map of texts that the call makes, as a list of names and values. And what stands behind it. -/
import Derived.Test.YthfonniieaiocaaGreatDoorCc
import Derived.Test.YthfonniieaiocaaGreatDoorPh
import Derived.Maps.OwnSet
import Derived.Test.YthfonniieaiocaaGreatDoorCr
import Derived.StillTail
import Derived.Deep.Quiet
import Derived.Deep.QuietTactic
import Derived.BigQuiet
import Derived.Test.YthfonniieaiocaaGreatDoorCh
set_option linter.unusedVariables false
set_option linter.unusedSimpArgs false
set_option maxRecDepth 100000
namespace Go.Proofs.YthfonniieaiocaaGreatDoor
open Go.RowKit
open Go.ChangeMaps (setBlock)

theorem num_inj {a b : List Int} (ha : By a) (hb : By b) : strOfNums a = strOfNums b ↔ a = b := ⟨fun h => by rw [← byteL_str ha, ← byteL_str hb, h], fun h => by rw [h]⟩
def enV (q : List Int × List Int) : Value × Value := (.string (strOfNums q.1), .string (strOfNums q.2))
def MapIs (w : World) (r : Nat) (l : List (List Int × List Int)) : Prop := (∀ q ∈ l, By q.1) ∧ ∃ es clock, w.heap[r]? = some (.map es clock) ∧ es.toList.map (fun e => (e.key, e.val)) = l.map enV
theorem MapIs.new (w : World) : MapIs (w.alloc (.map #[] 0)) w.heap.size [] := ⟨(fun _ h => by cases h), #[], 0, heap_alloc_new w _, rfl⟩
theorem MapIs.lt {w : World} {r : Nat} {l : List (List Int × List Int)} (h : MapIs w r l) : r < w.heap.size := by
  obtain ⟨_, es, clock, hb, _⟩ := h
  rcases Nat.lt_or_ge r w.heap.size with h1 | h1
  · exact h1
  · rw [Array.getElem?_eq_none h1] at hb; cases hb
theorem MapIs.heap {w w' : World} {r : Nat} {l : List (List Int × List Int)} (h : MapIs w r l) (he : w'.heap[r]? = w.heap[r]?) : MapIs w' r l := by
  obtain ⟨h1, es, clock, hr, hx⟩ := h
  exact ⟨h1, es, clock, he.trans hr, hx⟩
theorem MapIs.below {w w' : World} {r : Nat} {l : List (List Int × List Int)} (h : MapIs w r l) (hb : Below w.heap.size w w') : MapIs w' r l := h.heap (hb.block r h.lt)

def Rds (w : World) (B : Nat) (A : Option Addr) (cs : List Value) : Prop := 0 < cs.length → ∃ b o, A = some ⟨b, o, none⟩ ∧ b < B ∧ ∀ j u, cs[j]? = some u → w.cell? ⟨b, o + j, none⟩ = some u
theorem Rds.keep {w w' : World} {B : Nat} {A : Option Addr} {cs : List Value} (h : Rds w B A cs) (hk : ∀ p : Addr, p.block < B → w'.cell? p = w.cell? p) : Rds w' B A cs := fun hn => by
  obtain ⟨b, o, e, hb, hc⟩ := h hn
  exact ⟨b, o, e, hb, fun j u hu => (hk ⟨b, o + j, none⟩ hb).trans (hc j u hu)⟩
theorem Rds.below {w w' : World} {B : Nat} {A : Option Addr} {cs : List Value} (h : Rds w B A cs) (hb : Below B w w') : Rds w' B A cs := h.keep fun _ hp => hb.cell hp
theorem Rds.up {w : World} {B B' : Nat} {A : Option Addr} {cs : List Value} (h : Rds w B A cs) (hB : B ≤ B') : Rds w B' A cs := fun hn => by
  obtain ⟨b, o, e, hb, hc⟩ := h hn
  exact ⟨b, o, e, Nat.lt_of_lt_of_le hb hB, hc⟩
def prmBy (p : Prm) : Prop := By p.n ∧ By p.v ∧ p.n.length ≤ 4000000 ∧ p.v.length ≤ 4000000
def findP (ps : List Prm) (nm : List Int) : Option Nat := ps.findIdx? fun p => lowS p.n == lowS nm
def findV : Option Nat → Int
  | none => -1
  | some i => i
theorem prms_at {ps : List Prm} {k : Nat} {p : Prm} (h : ps[k]? = some p) : (prms ps)[k * 3]? = some (.string (strOfNums p.n)) ∧ (prms ps)[k * 3 + 1]? = some (.string (strOfNums p.v)) ∧ (prms ps)[k * 3 + 2]? = some (.bool p.h) :=
  ⟨flat_at prmC 3 (fun _ => rfl) ps k 0 p h (by omega), flat_at prmC 3 (fun _ => rfl) ps k 1 p h (by omega), flat_at prmC 3 (fun _ => rfl) ps k 2 p h (by omega)⟩
theorem toList_beq {a b : List Int} (ha : By a) (hb : By b) : ((strOfNums a).toList == (strOfNums b).toList) = (a == b) := by
  rw [Bool.eq_iff_iff, beq_iff_eq, beq_iff_eq, toList_inj, num_inj ha hb]
theorem find_spec (ps : List Prm) (nm : List Int) : (findP ps nm = none ∧ ps.find? (fun p => lowS p.n == lowS nm) = none) ∨ ∃ i p, findP ps nm = some i ∧ ps[i]? = some p ∧ ps.find? (fun p => lowS p.n == lowS nm) = some p := by
  induction ps with
  | nil => exact .inl ⟨rfl, rfl⟩
  | cons q ps ih =>
    unfold findP at ih ⊢
    rw [List.findIdx?_cons, List.find?_cons]
    cases hq : (lowS q.n == lowS nm) with
    | true => exact .inr ⟨0, q, by simp, rfl, rfl⟩
    | false =>
      rcases ih with ⟨h1, h2⟩ | ⟨i, p, h1, h2, h3⟩
      · exact .inl ⟨by simp [h1], h2⟩
      · exact .inr ⟨i + 1, p, by simp [h1], h2, h3⟩
theorem findP_none {ps : List Prm} {nm : List Int} (h : ∀ (j : Nat) p, j < ps.length → ps[j]? = some p → (lowS p.n == lowS nm) = false) : findP ps nm = none := by
  unfold findP
  rw [List.findIdx?_eq_none_iff]
  intro p hp
  obtain ⟨j, hj, rfl⟩ := List.getElem_of_mem hp
  exact h j _ hj (List.getElem?_eq_getElem hj)
theorem findP_some {ps : List Prm} {nm : List Int} {k : Nat} {p : Prm} (h : ∀ (j : Nat) p, j < k → ps[j]? = some p → (lowS p.n == lowS nm) = false) (hk : ps[k]? = some p) (hp : (lowS p.n == lowS nm) = true) : findP ps nm = some k := by
  unfold findP
  obtain ⟨hl, rfl⟩ := List.getElem?_eq_some_iff.1 hk
  rw [List.findIdx?_eq_some_iff_getElem]
  exact ⟨hl, hp, fun j hj => by rw [h j _ hj (List.getElem?_eq_getElem (by omega))]; decide⟩
theorem find_any (A : Option Addr) (n c : Nat) (ps : List Prm) (nm : ByteArray) (w : World) (hA : Rds w w.heap.size A (prms ps)) (hn : ps.length = n) (hP : ∀ p ∈ ps, prmBy p) (hN : n ≤ 16000000) (hs : nm.size ≤ 4000000) :
    Calls Tryz.prog 118 #[.slice A n c, .string nm] w fun e w' => e = .returned (.int .i64 (findV (findP ps (byteL nm)))) ∧ Below w.heap.size w w' := by
  have HA := kd hA; have HN := kd hn; have HP := kd hP
  clear hA hn hP
  go_enter Tryz.func118, Tryz.ntmps118
  go_wp2_with fail
  go_loopw [5] (fun v wr => ∃ k : Nat, k ≤ n ∧ v = .int .i64 k ∧ Hid (Below w.heap.size w wr ∧ ∀ (j : Nat) p, j < k → ps[j]? = some p → (lowS p.n == lowS (byteL nm)) = false)) (fun v _ => n - (intOf v).toNat)
  case atStart => exact ⟨0, Nat.zero_le _, rfl, kd ⟨Below.refl _ _, fun j p hj => absurd hj (by omega)⟩⟩
  case round =>
    obtain ⟨k, hk, rfl, H⟩ := hrel
    by_cases hlt : k < n
    · obtain ⟨p, hp⟩ : ∃ p, ps[k]? = some p := ⟨_, List.getElem?_eq_getElem (by rw [HN.out]; exact hlt)⟩
      obtain ⟨ab, ao, rfl, hab, hac⟩ := HA.out (by rw [prms_len, HN.out]; omega)
      have hpb := HP.out p (List.mem_of_getElem? hp)
      have hcell : wr.cell? ⟨ab, ao + k * 3, none⟩ = some (.string (strOfNums p.n)) := (H.out.1.cell (p := ⟨ab, ao + k * 3, none⟩) hab).trans (hac _ _ (prms_at hp).1)
      have hd : decide (k < n) = true := by simp; omega
      clear hac hab
      go_wp2_with fail
      refine (reflower_any (strOfNums p.n) _ (by rw [num_size]; exact hpb.2.2.1)).mono ?_
      rintro e w1 ⟨rfl, hb1⟩
      have B1 := kd (bthen H.out.1 hb1); clear hb1
      rw [byteL_str hpb.1]
      go_wp2_with fail
      refine (reflower_any nm _ hs).mono ?_
      rintro e w2 ⟨rfl, hb2⟩
      have B2 := kd (bthen B1.out hb2); clear hb2 B1
      have BX := lowS_by hpb.1
      have BY := lowS_by (byteL_by nm)
      have TB := toList_beq BX BY
      have F1 := kd (fun h => findP_some (nm := byteL nm) (k := k) (p := p) (fun j p hj hpj => H.out.2 j p hj hpj) hp h)
      have NX := kd (show (lowS p.n == lowS (byteL nm)) = false → ∀ (j : Nat) q, j < k + 1 → ps[j]? = some q → (lowS q.n == lowS (byteL nm)) = false from fun h j q hj hq => by
        rcases (show j < k ∨ j = k by omega) with h1 | rfl
        · exact H.out.2 j q h1 hq
        · rw [hp] at hq
          cases hq
          exact h)
      clear BX BY hpb hp
      generalize hx : lowS p.n = x at TB F1 NX
      generalize hy : lowS (byteL nm) = y at TB F1
      have HY := kd hy
      clear hx hy
      cases he : (x == y) with
      | true =>
        rw [he] at TB
        have F2 := kd (F1.out he)
        clear he
        go_wp2_with fail
        go_ret
        exact ⟨by rw [F2.out]; rfl, B2.out⟩
      | false =>
        rw [he] at TB
        have N2 := kd (NX.out (by rw [HY.out]; exact he))
        clear he
        go_wp2_with fail
        go_roundw
        case rel => exact ⟨k + 1, by omega, by go_num, kd ⟨B2.out, N2.out⟩⟩
        case measure => simp [intOf]; omega
    · obtain rfl : k = n := by omega
      have F2 := kd (findP_none (ps := ps) (nm := byteL nm) (fun j p hj hp => H.out.2 j p (by rw [HN.out] at hj; exact hj) hp))
      go_wp2_with fail
      go_ret
      exact ⟨by rw [F2.out]; rfl, H.out.1⟩

section
variable {P : Program} {ops : Array Oper} {md : Region.Mode} {C : World → Prop}
def headQ (P : Program) (md : Region.Mode) (ops : Array Oper) (C : World → Prop) (n : Nat) (L : Array Bool → Act → Prop) : Nat → Array Bool → Act → Prop
  | 0, done, a => L done a
  | f + 1, done, a => Region.ready md ops done ≠ [] ∧ ∀ i ∈ Region.ready md ops done, i < n ∧ qOp P ops C i (headQ P md ops C n L f (done.setIfInBounds i true)) a
theorem headQ_run {n g : Nat} {L : Array Bool → Act → Prop} {R : Exit → Act → World → Prop} (hL : ∀ done a w, C w → L done a → wpAny P md ops R g done a w) :
    ∀ (f : Nat) (done : Array Bool) (a : Act) (w : World), C w → headQ P md ops C n L f done a → wpAny P md ops R (f + g) done a w
  | 0, done, a, w, hw, h => by
    rw [Nat.zero_add]
    exact hL _ _ _ hw h
  | f + 1, done, a, w, hw, h => by
    rw [Nat.add_right_comm]
    exact ⟨fun e => absurd e h.1, fun i hi => wpOp_of_qOp hw (fun a' w' hw' h' => headQ_run hL f _ a' w' hw' h') (h.2 i hi).2⟩
theorem headQ_take {n i : Nat} {oi : Oper} {v : Value} {L : Array Bool → Act → Prop} (hi : ops[i]? = some oi) (hsel : ∀ (j : Nat) (o : Oper) cs b, ops[j]? = some o → o.op ≠ .select cs b)
    (hs : Region.sinkB md ops n = true) (hc : Region.chainB md ops n = true) (hn : n < ops.size) (hin : i < n) (hend : ∀ done a, L done a → ∀ j ∈ Region.ready md ops done, n ≤ j) (f : Nat) :
    ∀ (done : Array Bool) (a : Act), HeadInv md ops n done →
      (∀ j oj, ops[j]? = some oj → j ≠ i → done.getD j true = false → (∀ e ∈ oj.after, Region.binds md e = true → e.on ≠ i) → oi.apart ops oj = true) →
      i ∈ Region.ready md ops done → YieldsIn P ops C oi v a → headQ P md ops C n L f (done.setIfInBounds i true) (a.put oi.dst v) → headQ P md ops C n L (f + 1) done a := by
  induction f with
  | zero =>
    intro done a inv _ hr hy H
    have low : ∀ j ∈ Region.ready md ops done, j < n := fun j hj => Nat.lt_of_not_le fun h => tail_waits hs hc hn inv _ i rfl hin (mem_ready.1 hr).1 j h hj
    refine ⟨List.ne_nil_of_mem hr, fun j hj => ⟨low j hj, ?_⟩⟩
    by_cases e : j = i
    · rw [e]; exact hy.qOp hi H
    · exact absurd (hend _ _ H j (ready_mono hj e)) (Nat.not_le.2 (low j hj))
  | succ f ih =>
    intro done a inv hfree hr hy H
    have low : ∀ j ∈ Region.ready md ops done, j < n := fun j hj => Nat.lt_of_not_le fun h => tail_waits hs hc hn inv _ i rfl hin (mem_ready.1 hr).1 j h hj
    refine ⟨List.ne_nil_of_mem hr, fun j hj => ⟨low j hj, ?_⟩⟩
    by_cases e : j = i
    · rw [e]; exact hy.qOp hi H
    · obtain ⟨hju, oj, hoj, hall⟩ := mem_ready.1 hj
      have hno : ∀ d ∈ oj.after, Region.binds md d = true → d.on ≠ i := fun d hd hb he => by
        have h1 := hall d hd hb
        rw [he, getD_both (mem_ready.1 hr).1] at h1
        cases h1
      refine qOp_mono (fun a' h3 => ih _ a' (inv.set hj (low j hj)) (fun k ok hk hki hun hw => hfree k ok hk hki ?_ hw) (ready_mono hr (Ne.symm e)) h3.1 ?_)
        (qOp_put hoj (hfree j oj hoj e hju hno) (fun cs b => hsel i oi cs b hi) (fun cs b => hsel j oj cs b hoj) hy (H.2 j (ready_mono hj e)).2)
      · by_cases hjk : j = k
        · rw [← hjk]; exact hju
        · rwa [getD_set_ne true hjk] at hun
      · rw [Array.setIfInBounds_comm _ _ e]
        exact h3.2
theorem headQ_walk {n g : Nat} {R : Act → Prop} (hsel : Region.noSelect ops = true) (hs : Region.sinkB md ops n = true) (hc : Region.chainB md ops n = true) (hn : n < ops.size) :
    ∀ (l : List Oper) (k : Nat) (done : Array Bool) (a : Act), (∀ j, j < l.length → l[j]? = ops[k + j]?) → k + l.length = n → HeadInv md ops n done → Region.lexHead md ops g l.length k done = true → wpQuiet P ops C R l a →
      headQ P md ops C n (fun d' a' => Region.seqB md ops g n d' = true ∧ R a') l.length done a
  | [], k, done, a, _, hk, _, hB, h => by
    rw [List.length_nil, Nat.add_zero] at hk
    subst hk
    exact ⟨by simpa [Region.lexHead] using hB, h⟩
  | o :: l, k, done, a, hl, hk, inv, hB, h => by
    have h0 : ops[k]? = some o := by simpa using (hl 0 (by simp)).symm
    simp only [List.length_cons, Region.lexHead, Bool.and_eq_true] at hB
    obtain ⟨⟨hr, hf⟩, hB'⟩ := hB
    rw [List.length_cons] at hk
    have hkn : k < n := by omega
    have hr' : k ∈ Region.ready md ops done := by simpa using hr
    obtain ⟨v, hy, hK⟩ := yieldsIn_of_qOp (K := wpQuiet P ops C R l) h0 (by unfold qOp; simp only [h0]; exact h)
    exact headQ_take h0 (Region.noSelect_spec hsel) hs hc hn hkn (fun d' a' hL => seqB_ready hL.1) l.length done a inv (Region.free_spec h0 hf) hr' hy
      (headQ_walk hsel hs hc hn l (k + 1) _ _ (fun j hj => by have := hl (j + 1) (by simp; omega); simpa [Nat.add_assoc, Nat.add_comm 1 j] using this) (by omega) (inv.set hr' hkn) hB' hK)
theorem region_quiet_tail {id : Nat} {Q : Exit → Act → World → Prop} {a : Act} {w : World} {l : List Oper} (n : Nat) (hm : P.follows .mixedOrders = true) (hB : Region.lexTailB .any l.toArray n = true) (hC : C w.drew)
    (h : wpQuiet P l.toArray C (fun a' => ∀ w', C w' → wpList P l.toArray Q (l.drop n) a' w') (l.take n) a) : (Code.region id l.toArray true).wp P Q a w := by
  simp only [Region.lexTailB, Bool.and_eq_true, decide_eq_true_eq] at hB
  obtain ⟨⟨⟨⟨hsel, hn⟩, hs⟩, hc⟩, hlex⟩ := hB
  have hn' : n < l.length := by simpa using hn
  have ht : (l.take n).length = n := by rw [List.length_take]; omega
  have hd : (l.drop n).length = l.toArray.size - n := by simp
  have inv0 : HeadInv .any l.toArray n (Array.replicate l.toArray.size false) :=
    ⟨by simp, fun j oj _ hl => (by rw [getD_replicate_false] at hl; cases hl), fun t _ hlt => getD_in (by simpa using hlt) (getD_replicate_false _ _)⟩
  have H := headQ_walk (md := .any) (g := l.toArray.size - n) hsel hs hc hn (l.take n) 0 _ a (fun j hj => by
    rw [ht] at hj
    simp [hj]) (by simpa using ht) inv0 (by rw [ht]; exact hlex) h
  refine wp_region_any hm ?_
  have F := headQ_run (R := Q) (g := l.toArray.size - n) (fun d a' w' hw' hL => by
    have := wpAny_of_seq (md := .any) (Q' := Q) (l.drop n) n d a' w' (fun j => by simp [List.getElem?_drop]) (by rw [hd]; exact hL.1) (hL.2 w' hw')
    rwa [hd] at this) _ _ _ _ hC H
  rw [ht, show n + (l.toArray.size - n) = l.toArray.size by omega] at F
  exact F
end

structure BW (w0 : World) where
  w : World
  h : Below w0.heap.size w0 w
instance (w0 : World) : Nonempty (BW w0) := ⟨⟨w0, Below.refl _ _⟩⟩
section
variable {P : Program}
theorem region_bw {id : Nat} {Q : Exit → Act → World → Prop} {a : Act} {w : World} {l : List Oper} (hm : P.follows .mixedOrders = true) (hB : Region.lexB .any l.toArray = true)
    (h : wpQuiet P l.toArray (fun w' => ∃ x : BW w, w' = x.w) (fun a' => ∀ w', (∃ x : BW w, w' = x.w) → Q .normal a' w') l a) : (Code.region id l.toArray true).wp P Q a w :=
  wp_region_quiet (C := fun w' => ∃ x : BW w, w' = x.w) hm hB ⟨⟨w.drew, (Below.refl _ _).drew⟩, rfl⟩ (by simpa using h)
theorem calls_bw {f : FuncId} {args : Array Value} {w : World} {x : BW w} {v : Value} (h : Calls P f args x.w fun e w' => e = .returned v ∧ Below x.w.heap.size x.w w') :
    Calls P f args x.w fun e w'' => e = .returned v ∧ ∃ y : BW w, w'' = y.w :=
  h.mono fun _ w' ⟨he, hb⟩ => ⟨he, ⟨w', x.h.trans (hb.mono x.h.size)⟩, rfl⟩
theorem quiet_load {o : Oper} {a : Act} {w : World} {K : Act → Prop} (ty : TypeId) (x : Operand) (ho : o.op = .load ty x) (b : Nat) (hx : a.eval x = .pointer (some ⟨b, 0, none⟩)) (cs : List Value) (T : TypeId) (d : TypeDesc) (hr : Row w b T cs)
    (hu : P.underlying ty = some d) (hd : d.isRow = true) (hi : (P.info? ty).map (·.size) = some cs.length) (h : K (a.put o.dst (.agg cs.toArray))) : o.quiet P a (fun w' => ∃ y : BW w, w' = y.w) K :=
  ⟨.agg cs.toArray, fun w' ⟨y, hy⟩ => by
    subst hy
    unfold Oper.quietAt execOp
    simp only [ho, hx, Instr.loadAt, Instr.sureAddr, Sem.run_bind, Sem.run_pure, Result.andThen_ok, run_loadVar_mid y.w b 0 ty cs d (hr.below y.h).range hu hd hi]
    exact ⟨rfl, rfl⟩, h⟩
end
theorem region_bwt {P : Program} {id : Nat} {Q : Exit → Act → World → Prop} {a : Act} {w : World} {l : List Oper} (n : Nat) (hm : P.follows .mixedOrders = true) (hB : Region.lexTailB .any l.toArray n = true)
    (h : wpQuiet P l.toArray (fun w' => ∃ x : BW w, w' = x.w) (fun a' => ∀ w', (∃ x : BW w, w' = x.w) → wpList P l.toArray Q (l.drop n) a' w') (l.take n) a) : (Code.region id l.toArray true).wp P Q a w :=
  region_quiet_tail n hm hB ⟨⟨w.drew, (Below.refl _ _).drew⟩, rfl⟩ h
theorem Row.later {w : World} {b : Nat} {T : TypeId} {vs : List Value} (h : Row w b T vs) (x : BW w) (i : Nat) : x.w.cell? ⟨b, i, none⟩ = vs[i]? := (h.below x.h).cell i

structure CG (w : World) (b : Nat) (s : ByteArray) (a : Nat) (w' : World) : Prop where
  r : Row w' b 84 [.string s, .int .i64 a]
  g : w.grownBy w' (some b)
theorem grown_id (w : World) (r : Option Nat) : w.grownBy w r := ⟨rfl, rfl, rfl, Nat.le_refl _, fun _ _ _ => rfl⟩
theorem grown_of_below {w w1 : World} (r : Option Nat) (h : Below w.heap.size w w1) : w.grownBy w1 r := ⟨h.os, h.tape, h.output, h.size, fun k hk _ => h.block k hk⟩
theorem grown_trans {a b c : World} {r : Option Nat} (h : a.grownBy b r) (h2 : b.grownBy c r) : a.grownBy c r :=
  ⟨h2.os.trans h.os, h2.tape.trans h.tape, h2.output.trans h.output, Nat.le_trans h.size h2.size, fun k hk hn => (h2.block k (Nat.lt_of_lt_of_le hk h.size) hn).trans (h.block k hk hn)⟩
theorem grown_cell {w w1 : World} {b i : Nat} (u : Value) (h : w.grownBy w1 (some b)) : w.grownBy (w1.setCell ⟨b, i, none⟩ u) (some b) :=
  ⟨h.os, h.tape, h.output, by rw [World.size_setCell]; exact h.size, fun k hk hn => (Below.heap_setCell w1 ⟨b, i, none⟩ u k (fun e => hn (by rw [e]))).trans (h.block k hk hn)⟩
theorem CG.refl {w : World} {b : Nat} {s : ByteArray} {a : Nat} (r : Row w b 84 [.string s, .int .i64 a]) : CG w b s a w := ⟨r, grown_id _ _⟩
theorem CG.call {w w1 w2 : World} {b : Nat} {s : ByteArray} {a : Nat} (h : CG w b s a w1) (hb : Below w1.heap.size w1 w2) : CG w b s a w2 := ⟨h.r.below hb, grown_trans h.g (grown_of_below _ hb)⟩
theorem CG.set {w w1 : World} {b : Nat} {s : ByteArray} {a : Nat} (h : CG w b s a w1) (a' : Nat) {z : Int} (hz : z = a') : CG w b s a' (w1.setCell ⟨b, 1, none⟩ (.int .i64 z)) := by
  subst hz
  exact ⟨h.r.set 1 _, grown_cell _ h.g⟩
theorem CG.trans {w w1 w2 : World} {b : Nat} {s : ByteArray} {a a' : Nat} (h : CG w b s a w1) (h2 : CG w1 b s a' w2) : CG w b s a' w2 := ⟨h2.r, grown_trans h.g h2.g⟩
def seesB (xs : List Int) (a : Nat) (c : Int) : Bool := decide (a < xs.length) && (xs.getD a 0 == c)
theorem curended_any (w : World) (b a : Nat) (s : ByteArray) (h : Row w b 84 [.string s, .int .i64 a]) :
    Calls Tryz.prog 72 #[.pointer (some ⟨b, 0, none⟩)] w fun e w' => e = .returned (.bool (decide (s.size ≤ a))) ∧ ∃ q, w' = w.drewN q := by
  have k0 : w.cell? ⟨b, 0, none⟩ = some (.string s) := h.cell 0
  have k1 : w.cell? ⟨b, 1, none⟩ = some (.int .i64 a) := h.cell 1
  clear h
  go_enter Tryz.func72, Tryz.ntmps72
  go_wp2_with fail
  go_quiet (fail)
  go_wp2_with fail
  go_ret
  exact ⟨ret_bool (by first | rfl | simp), _, rfl⟩
theorem cursees_any (w : World) (b a : Nat) (c : Int) (s : ByteArray) (h : Row w b 84 [.string s, .int .i64 a]) :
    Calls Tryz.prog 69 #[.pointer (some ⟨b, 0, none⟩), .int .u8 c] w fun e w' => e = .returned (.bool (seesB (byteL s) a c)) ∧ ∃ q, w' = w.drewN q := by
  have k0 : w.cell? ⟨b, 0, none⟩ = some (.string s) := h.cell 0
  have k1 : w.cell? ⟨b, 1, none⟩ = some (.int .i64 a) := h.cell 1
  have EN := kd (fun n => curended_any (w.drewN n) b a s (h.drewN n))
  have HL := kd (byteL_len s)
  clear h
  by_cases hlt : a < s.size
  · have d : decide (s.size ≤ a) = false := by simp; omega
    have dx := fun w => idx_str s (i := a) hlt (z := (a : Int)) rfl w
    rw [d] at EN
    have E := kd (show seesB (byteL s) a c = ((byteL s).getD a 0 == c) by unfold seesB; rw [HL.out, decide_eq_true hlt]; rfl)
    generalize (byteL s).getD a 0 = x at *
    clear d hlt
    go_enter Tryz.func69, Tryz.ntmps69
    go_wp2_with fail
    go_quiet ((go_at_call 72; exact Calls.quiet_of (EN.out _)))
    go_wp2_with fail
    go_ret
    exact ⟨ret_bool E.out.symm, _, rfl⟩
  · have d : decide (s.size ≤ a) = true := by simp; omega
    rw [d] at EN
    have E := kd (show seesB (byteL s) a c = false by unfold seesB; rw [HL.out, decide_eq_false hlt]; rfl)
    clear d hlt
    go_enter Tryz.func69, Tryz.ntmps69
    go_wp2_with fail
    go_quiet ((go_at_call 72; exact Calls.quiet_of (EN.out _)))
    go_wp2_with fail
    go_ret
    exact ⟨ret_bool E.out.symm, _, rfl⟩
theorem curblanks_any (w : World) (b a : Nat) (s : ByteArray) (h : Row w b 84 [.string s, .int .i64 a]) (ha : a ≤ s.size) (hs : s.size ≤ 4000000) :
    Calls Tryz.prog 80 #[.pointer (some ⟨b, 0, none⟩)] w fun e w' => e = .returned (.tuple #[]) ∧ CG w b s (skipTo isBlank (byteL s) a) w' := by
  have R := kd h
  have k0 : w.cell? ⟨b, 0, none⟩ = some (.string s) := h.cell 0
  have k1 : w.cell? ⟨b, 1, none⟩ = some (.int .i64 a) := h.cell 1
  have BL := kd (fun w => blanksN s (a : Int) a w (skipTo isBlank (byteL s) a) rfl ha rfl hs)
  generalize skipTo isBlank (byteL s) a = a2 at *
  clear h ha
  go_enter Tryz.func80, Tryz.ntmps80
  go_wp2_with fail
  clear k0 k1
  have q0 := fun x : BW w => R.out.later x 0
  have q1 := fun x : BW w => R.out.later x 1
  simp only [List.getElem?_cons_succ, List.getElem?_cons_zero] at q0 q1
  refine region_bwt 13 (by kernel_rfl) (by kernel_rfl) ?_
  simp only [List.take_succ_cons, List.take_zero, List.drop_succ_cons, List.drop_zero]
  iterate 10 go_big_quiet_step (fail)
  go_big_quiet_step (exact calls_bw (BL.out _))
  iterate 2 go_big_quiet_step (fail)
  refine wpQuiet_nil ?_
  rintro _ ⟨x, rfl⟩
  have G := kd ((CG.refl R.out).call x.h)
  have k1 : x.w.cell? ⟨b, 1, none⟩ = some (.int .i64 a) := G.out.r.cell 1
  have f1 : x.w.frozen? ⟨b, 1, none⟩ = false := G.out.r.frozen 1
  clear q0 q1
  go_wp2_with fail
  go_end0
  exact ⟨rfl, G.out.set a2 rfl⟩
theorem curtoken_any (w : World) (b a : Nat) (s : ByteArray) (h : Row w b 84 [.string s, .int .i64 a]) (ha : a ≤ s.size) (hs : s.size ≤ 4000000) :
    Calls Tryz.prog 147 #[.pointer (some ⟨b, 0, none⟩)] w fun e w' => e = .returned (.string (strOfNums (subL (byteL s) a (skipTo isTok (byteL s) a)))) ∧ CG w b s (skipTo isTok (byteL s) a) w' := by
  have R := kd h
  have k0 : w.cell? ⟨b, 0, none⟩ = some (.string s) := h.cell 0
  have k1 : w.cell? ⟨b, 1, none⟩ = some (.int .i64 a) := h.cell 1
  have BL := kd (fun w => by
    have h := tokend_any s a w (by omega) (by omega)
    rw [clipN ha] at h
    exact h)
  have S := kd (show s.extract a (skipTo isTok (byteL s) a) = strOfNums (subL (byteL s) a (skipTo isTok (byteL s) a)) by rw [← str_byteL (s.extract _ _), byteL_extract]; rfl)
  have le1 : a ≤ skipTo isTok (byteL s) a := skip_ge _ _ _
  have le2 : skipTo isTok (byteL s) a ≤ s.size := by rw [← byteL_len s]; exact skip_le (by rw [byteL_len]; exact ha)
  generalize skipTo isTok (byteL s) a = a2 at *
  clear h ha
  go_enter Tryz.func147, Tryz.ntmps147
  go_wp2_with fail
  clear k0 k1
  refine (BL.out _).mono ?_
  rintro e w1 ⟨rfl, hb⟩
  have G := kd ((CG.refl R.out).call hb)
  have k1 : w1.cell? ⟨b, 1, none⟩ = some (.int .i64 a) := G.out.r.cell 1
  have f1 : w1.frozen? ⟨b, 1, none⟩ = false := G.out.r.frozen 1
  have G2 := kd (G.out.set a2 rfl)
  clear hb
  go_wp2_with fail
  generalize w1.setCell ⟨b, 1, none⟩ (.int .i64 (a2 : Int)) = w2 at *
  clear k1 f1
  have k1 : w2.cell? ⟨b, 1, none⟩ = some (.int .i64 a2) := G2.out.r.cell 1
  have k0 : w2.cell? ⟨b, 0, none⟩ = some (.string s) := G2.out.r.cell 0
  have i1 : (0 : Int) ≤ (a : Int) := by omega
  have i2 : (a : Int) ≤ (a2 : Int) := by omega
  have i3 : (a2 : Int) ≤ (s.size : Int) := by omega
  go_quiet (fail)
  go_wp2_with fail
  go_ret
  exact ⟨by rw [← S.out]; rfl, G2.out.call (below_drewN _ _)⟩
end Go.Proofs.YthfonniieaiocaaGreatDoor
