/- A region that draws its order, by an invariant over the set of operations that have been carried out; and, for a region without guards whose operations write different slots, by one assertion for each operation. -/
import Derived.WalkKit
import Derived.WalkSpells
import Derived.Lib.Hide
namespace Go.Proofs.Ytdooohanhekniaa
open Go.RowKit

section
variable {P : Program} {ops : Array Oper} {Q : Exit → Act → World → Prop}

def upd (L : Nat → Bool) (i : Nat) : Nat → Bool := fun j => j == i || L j

/-- How many are not yet listed. -/
def openN (n : Nat) (L : Nat → Bool) : Nat := ((List.range n).filter fun i => !L i).length

theorem openN_zero {n : Nat} {L : Nat → Bool} (h : openN n L = 0) : ∀ i, i < n → L i = true := by
  intro i hi
  have : (List.range n).filter (fun i => !L i) = [] := List.eq_nil_of_length_eq_zero h
  have h2 := List.filter_eq_nil_iff.1 this i (List.mem_range.2 hi)
  simpa using h2

theorem filter_upd {l : List Nat} {L : Nat → Bool} {i : Nat} : (l.filter fun j => !upd L i j).length ≤ (l.filter fun j => !L j).length := by
  induction l with
  | nil => simp
  | cons x l ih =>
    simp only [List.filter_cons, upd]
    by_cases hx : x == i
    · simp only [hx, Bool.true_or, Bool.not_true, Bool.false_eq_true, if_false]
      refine Nat.le_trans ih ?_
      split <;> simp
    · simp only [Bool.not_eq_true] at hx
      simp only [hx, Bool.false_or]
      split
      · exact Nat.succ_le_succ ih
      · exact ih

theorem filter_upd_lt {l : List Nat} {L : Nat → Bool} {i : Nat} (hi : i ∈ l) (hL : L i = false) : (l.filter fun j => !upd L i j).length < (l.filter fun j => !L j).length := by
  induction l with
  | nil => cases hi
  | cons x l ih =>
    simp only [List.filter_cons, upd]
    by_cases hx : x = i
    · subst hx
      simp only [beq_self_eq_true, Bool.true_or, Bool.not_true, Bool.false_eq_true, if_false, hL, Bool.not_false, if_true, List.length_cons]
      exact Nat.lt_succ_of_le filter_upd
    · have hx' : (x == i) = false := by simp [hx]
      have hi' : i ∈ l := by
        rcases List.mem_cons.1 hi with h | h
        · exact absurd h.symm hx
        · exact h
      simp only [hx', Bool.false_or]
      split
      · exact Nat.succ_lt_succ (ih hi')
      · exact ih hi'

theorem openN_upd {n : Nat} {L : Nat → Bool} {i : Nat} (hi : i < n) (hL : L i = false) : openN n (upd L i) < openN n L :=
  filter_upd_lt (List.mem_range.2 hi) hL

theorem ready_iff {listed : Array Bool} (hs : listed.size = ops.size) (i : Nat) : i ∈ Region.ready .any ops listed ↔
    ∃ o, ops[i]? = some o ∧ listed.getD i false = false ∧ ∀ e ∈ o.after, Region.binds .any e = true → listed.getD e.on false = true := by
  simp only [Region.ready, List.mem_filter, List.mem_range, Bool.and_eq_true, Bool.not_eq_true']
  constructor
  · rintro ⟨hlt, h1, h2⟩
    have ho : ops[i]? = some ops[i] := Array.getElem?_eq_getElem hlt
    refine ⟨_, ho, ?_, fun e he hb => ?_⟩
    · have hl : i < listed.size := by omega
      simpa [Array.getD, hl] using h1
    · rw [ho] at h2
      simp only [Option.map_some, Option.getD_some] at h2
      have h3 := Array.all_eq_true_iff_forall_mem.1 h2 e he
      simpa [hb] using h3
  · rintro ⟨o, ho, h1, h2⟩
    have hlt : i < ops.size := (Array.getElem?_eq_some_iff.1 ho).1
    refine ⟨hlt, ?_, ?_⟩
    · have hl : i < listed.size := by omega
      simpa [Array.getD, hl] using h1
    · rw [ho]
      simp only [Option.map_some, Option.getD_some]
      refine Array.all_eq_true_iff_forall_mem.2 fun e he => ?_
      by_cases hb : Region.binds .any e = true
      · simp [h2 e he hb]
      · simp [hb]

theorem view_set {listed : Array Bool} {i : Nat} (hi : i < listed.size) : (fun j => (listed.setIfInBounds i true).getD j false) = upd (fun j => listed.getD j false) i := by
  funext j
  simp only [upd]
  by_cases h : j = i
  · subst h; simp [Array.getD, hi]
  · have hj : (j == i) = false := by simp [h]
    rw [hj, Bool.false_or]
    simp only [Array.getD, Array.size_setIfInBounds]
    split
    · rw [Array.getInternal_eq_getElem, Array.getInternal_eq_getElem, Array.getElem_setIfInBounds_ne _ (Ne.symm h)]
    · rfl

/-- The operations before which an operation must wait stand ahead of it. -/
def ahead (ops : Array Oper) : Bool := (List.range ops.size).all fun i => match ops[i]? with
  | some o => o.after.all fun e => !Region.binds .any e || decide (e.on < i)
  | none => true

theorem ahead_spec (h : ahead ops = true) {i : Nat} {o : Oper} (ho : ops[i]? = some o) : ∀ e ∈ o.after, Region.binds .any e = true → e.on < i := by
  intro e he hb
  have hlt : i < ops.size := (Array.getElem?_eq_some_iff.1 ho).1
  have h1 := List.all_eq_true.1 h i (List.mem_range.2 hlt)
  simp only [ho] at h1
  have h2 := Array.all_eq_true_iff_forall_mem.1 h1 e he
  simpa [hb] using h2

theorem all_listed (hA : ahead ops = true) {listed : Array Bool} (hs : listed.size = ops.size) (h : Region.ready .any ops listed = []) : ∀ i, i < ops.size → listed.getD i false = true := by
  intro i
  induction i using Nat.strongRecOn with
  | ind i ih =>
    intro hi
    by_cases hl : listed.getD i false = true
    · exact hl
    · exfalso
      have ho : ops[i]? = some ops[i] := Array.getElem?_eq_getElem hi
      have hr : i ∈ Region.ready .any ops listed := (ready_iff hs i).2 ⟨_, ho, by simpa using hl, fun e he hb => by
        have := ahead_spec hA ho e he hb
        exact ih e.on this (by omega)⟩
      rw [h] at hr
      cases hr

theorem wpAny_inv (hA : ahead ops = true) (I : (Nat → Bool) → Act → World → Prop)
    (hstep : ∀ (L : Nat → Bool) (a : Act) (w : World) (i : Nat) (o : Oper), I L a w → ops[i]? = some o → L i = false → (∀ e ∈ o.after, Region.binds .any e = true → L e.on = true) → wpOp P ops Q i (I (upd L i)) a w)
    (hend : ∀ (L : Nat → Bool) (a : Act) (w : World), I L a w → (∀ i, i < ops.size → L i = true) → Q .normal a w) :
    ∀ (fuel : Nat) (listed : Array Bool) (a : Act) (w : World), listed.size = ops.size → openN ops.size (fun j => listed.getD j false) ≤ fuel → I (fun j => listed.getD j false) a w → wpAny P .any ops Q fuel listed a w := by
  intro fuel
  induction fuel with
  | zero =>
    intro listed a w hs hc hI
    have hall := openN_zero (Nat.le_zero.1 hc)
    refine ⟨?_, hend _ a w hI hall⟩
    refine List.eq_nil_iff_forall_not_mem.2 fun i hi => ?_
    obtain ⟨o, ho, h1, _⟩ := (ready_iff hs i).1 hi
    have := hall i (Array.getElem?_eq_some_iff.1 ho).1
    rw [show listed.getD i false = true from this] at h1
    cases h1
  | succ fuel ih =>
    intro listed a w hs hc hI
    refine ⟨fun h0 => hend _ a w hI (all_listed hA hs h0), fun i hi => ?_⟩
    obtain ⟨o, ho, h1, h2⟩ := (ready_iff hs i).1 hi
    have hlt : i < ops.size := (Array.getElem?_eq_some_iff.1 ho).1
    refine wpOp_mono (fun a' w' hI' => ?_) (hstep _ a w i o hI ho h1 h2)
    refine ih _ a' w' (by simpa using hs) ?_ ?_
    · rw [view_set (by omega)]
      have := openN_upd (n := ops.size) (L := fun j => listed.getD j false) hlt h1
      omega
    · rw [view_set (by omega)]
      exact hI'

theorem region_inv (hm : P.follows .mixedOrders = true) (hA : ahead ops = true) (I : (Nat → Bool) → Act → World → Prop) {id : Nat} {a : Act} {w : World} (h0 : I (fun _ => false) a w.drew)
    (hstep : ∀ (L : Nat → Bool) (a : Act) (w : World) (i : Nat) (o : Oper), I L a w → ops[i]? = some o → L i = false → (∀ e ∈ o.after, Region.binds .any e = true → L e.on = true) → wpOp P ops Q i (I (upd L i)) a w)
    (hend : ∀ (L : Nat → Bool) (a : Act) (w : World), I L a w → (∀ i, i < ops.size → L i = true) → Q .normal a w) : (Code.region id ops true).wp P Q a w := by
  refine wp_region_any hm ?_
  have hv : (fun j => (Array.replicate ops.size false).getD j false) = fun _ => false := by
    funext j
    simp only [Array.getD, Array.size_replicate, Array.getElem_replicate, ite_self, dite_eq_ite]
    split <;> simp
  refine wpAny_inv hA I hstep hend _ _ a _ (by simp) ?_ ?_
  · exact Nat.le_trans (List.length_filter_le _ _) (by simp)
  · rw [hv]; exact h0

/-! ### One assertion for each operation -/

/-- No two operations write one slot, and each slot that is written is there. -/
def ssa (ops : Array Oper) (n : Nat) : Bool := (List.range ops.size).all fun i => match ops[i]? with
  | some o => (match o.dst with
    | some d => decide (d < n) && (List.range ops.size).all fun j => j == i || (match ops[j]? with
      | some o' => o'.dst != some d
      | none => true)
    | none => true)
  | none => true

theorem ssa_lt {n : Nat} (h : ssa ops n = true) {i : Nat} {o : Oper} {d : Tmp} (ho : ops[i]? = some o) (hd : o.dst = some d) : d < n := by
  have hlt : i < ops.size := (Array.getElem?_eq_some_iff.1 ho).1
  have h1 := List.all_eq_true.1 h i (List.mem_range.2 hlt)
  simp only [ho, hd, Bool.and_eq_true, decide_eq_true_eq] at h1
  exact h1.1

theorem ssa_ne {n : Nat} (h : ssa ops n = true) {i j : Nat} {o o' : Oper} {d : Tmp} (ho : ops[i]? = some o) (hd : o.dst = some d) (ho' : ops[j]? = some o') (hne : j ≠ i) : o'.dst ≠ some d := by
  have hlt : i < ops.size := (Array.getElem?_eq_some_iff.1 ho).1
  have hlt' : j < ops.size := (Array.getElem?_eq_some_iff.1 ho').1
  have h1 := List.all_eq_true.1 h i (List.mem_range.2 hlt)
  simp only [ho, hd, Bool.and_eq_true, decide_eq_true_eq] at h1
  have h2 := List.all_eq_true.1 h1.2 j (List.mem_range.2 hlt')
  simpa [ho', hne] using h2

/-- Slots that no operation writes are as they were. -/
def Fr (ops : Array Oper) (a0 a : Act) : Prop :=
  a.tmps.size = a0.tmps.size ∧ a.defers = a0.defers ∧ ∀ s, (∀ (i : Nat) (o : Oper), ops[i]? = some o → o.dst ≠ some s) → a.tmps.getD s undef = a0.tmps.getD s undef

def DagI (ops : Array Oper) (A : Nat → World → Value → Prop) (G : (Nat → Bool) → Act → World → Prop) (a0 : Act) (L : Nat → Bool) (a : Act) (w : World) : Prop :=
  Fr ops a0 a ∧ (∀ (i : Nat) (o : Oper) (d : Tmp), ops[i]? = some o → o.dst = some d → L i = true → A i w (a.tmps.getD d undef)) ∧ G L a w

/-- What an operation must leave. -/
def StepOk (A : Nat → World → Value → Prop) (G : (Nat → Bool) → Act → World → Prop) (L : Nat → Bool) (i : Nat) (o : Oper) (a : Act) (w : World) (a' : Act) (w' : World) : Prop :=
  ∃ v, a' = a.put o.dst v ∧ (∀ j u, A j w u → A j w' u) ∧ (∀ d, o.dst = some d → A i w' v) ∧ G (upd L i) a' w'

theorem getD_put_same {a : Act} {d : Tmp} {v : Value} (h : d < a.tmps.size) : (a.put (some d) v).tmps.getD d undef = v := by
  simp [Act.put, Array.getD, h]
theorem getD_put_other {a : Act} {x : Option Tmp} {s : Tmp} {v : Value} (h : x ≠ some s) : (a.put x v).tmps.getD s undef = a.tmps.getD s undef := by
  cases x with
  | none => rfl
  | some d =>
    have hne : d ≠ s := fun e => h (by rw [e])
    rw [Array.getD_eq_getD_getElem?, Array.getD_eq_getD_getElem?]
    simp only [Act.put]
    rw [Array.getElem?_setIfInBounds_ne hne]
theorem size_put (a : Act) (x : Option Tmp) (v : Value) : (a.put x v).tmps.size = a.tmps.size := by cases x <;> simp [Act.put]
theorem defers_put (a : Act) (x : Option Tmp) (v : Value) : (a.put x v).defers = a.defers := by cases x <;> rfl

theorem dag_put {A : Nat → World → Value → Prop} {G : (Nat → Bool) → Act → World → Prop} {a0 a a' : Act} {L : Nat → Bool} {w w' : World} {i : Nat} {o : Oper} (hS : ssa ops a0.tmps.size = true)
    (h : DagI ops A G a0 L a w) (ho : ops[i]? = some o) (hs : StepOk A G L i o a w a' w') : DagI ops A G a0 (upd L i) a' w' := by
  obtain ⟨⟨f1, f2, f3⟩, hA, _⟩ := h
  obtain ⟨v, rfl, hst, hv, hG⟩ := hs
  refine ⟨⟨by rw [size_put]; exact f1, by rw [defers_put]; exact f2, fun s hs => ?_⟩, fun j oj d hoj hd hL => ?_, hG⟩
  · rw [getD_put_other (hs i o ho)]; exact f3 s hs
  · by_cases hij : j = i
    · subst hij
      rw [ho] at hoj
      injection hoj with hoj
      subst hoj
      rw [hd, getD_put_same (by rw [f1]; exact ssa_lt hS ho hd)]
      exact hv d hd
    · have hLj : L j = true := by simpa [upd, hij] using hL
      rw [getD_put_other (ssa_ne hS hoj hd ho (Ne.symm hij))]
      exact hst _ _ (hA j oj d hoj hd hLj)

theorem region_dag (hm : P.follows .mixedOrders = true) (hA : ahead ops = true) (A : Nat → World → Value → Prop) (G : (Nat → Bool) → Act → World → Prop) {id : Nat} {a : Act} {w : World} (hS : ssa ops a.tmps.size = true) (h0 : G (fun _ => false) a w.drew)
    (hstep : ∀ (L : Nat → Bool) (a' : Act) (w : World) (i : Nat) (o : Oper), DagI ops A G a L a' w → ops[i]? = some o → L i = false → (∀ e ∈ o.after, Region.binds .any e = true → L e.on = true) →
      wpOp P ops Q i (StepOk A G L i o a' w) a' w)
    (hend : ∀ (L : Nat → Bool) (a' : Act) (w : World), Fr ops a a' → (∀ (i : Nat) (o : Oper) (d : Tmp), ops[i]? = some o → o.dst = some d → A i w (a'.tmps.getD d undef)) → (∀ i, i < ops.size → L i = true) → G L a' w → Q .normal a' w) :
    (Code.region id ops true).wp P Q a w := by
  refine region_inv hm hA (DagI ops A G a) ?_ ?_ ?_
  · exact ⟨⟨rfl, rfl, fun _ _ => rfl⟩, fun _ _ _ _ _ h => (by cases h), h0⟩
  · intro L a' w i o hI ho hL hdep
    exact wpOp_mono (fun a2 w2 hs => dag_put hS hI ho hs) (hstep L a' w i o hI ho hL hdep)
  · intro L a' w hI hall
    exact hend L a' w hI.1 (fun i o d ho hd => hI.2.1 i o d ho hd (hall i (Array.getElem?_eq_some_iff.1 ho).1)) hall hI.2.2

/-- The operation, its slot, its guard, and those before which it waits: what a proof looks at. -/
def face (o : Oper) : Op × Option Tmp × Option (Nat × Bool) × TypeId × List Nat := (o.op, o.dst, o.guard, o.type, (o.after.toList.filter (Region.binds .any ·)).map (·.on))

theorem wpOp_face {i : Nat} {o : Oper} {a : Act} {w : World} {K : Act → World → Prop} (ho : ops[i]? = some o) (hg : o.guard = none) (h : o.wp P a w K Q) : wpOp P ops Q i K a w := by
  unfold wpOp
  rw [ho]
  simp only [Region.wanted, hg, if_true]
  exact Or.inl h

theorem dep_of {L : Nat → Bool} {o : Oper} (h : ∀ e ∈ o.after, Region.binds .any e = true → L e.on = true) {l : List Nat} (hl : (o.after.toList.filter (Region.binds .any ·)).map (·.on) = l) : ∀ j ∈ l, L j = true := by
  intro j hj
  rw [← hl, List.mem_map] at hj
  obtain ⟨e, he, rfl⟩ := hj
  rw [List.mem_filter] at he
  exact h e (by simpa using he.1) he.2

/-- The operations of the region with this number. -/
def regionOf (id : Nat) : Code → Option (Array Oper)
  | .region i ops _ => if i = id then some ops else none
  | .seq a b => (regionOf id a).or (regionOf id b)
  | .cond _ a b => (regionOf id a).or (regionOf id b)
  | .block _ b => regionOf id b
  | .loop b => regionOf id b
  | .scope b => regionOf id b
  | .rangeFunc _ _ a b => (regionOf id a).or (regionOf id b)
  | _ => none
def opsOf (f : Func) (id : Nat) : Array Oper := (f.body.bind (regionOf id)).getD #[]

end
end Go.Proofs.Ytdooohanhekniaa
