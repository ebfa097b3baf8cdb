/- A map of texts that the call makes, as a list of names and values. -/
import Derived.Test.YtfhbpgickkibmaaGreatDoorMc
import Derived.Test.YtfhbpgickkibmaaGreatDoorCb
import Derived.Maps.OwnSet
namespace Go.Proofs.YtfhbpgickkibmaaGreatDoor
open Go.RowKit
open Go.ChangeMaps (setBlock)

theorem num_inj {a b : List Int} (ha : By a) (hb : By b) : strOfNums a = strOfNums b ↔ a = b := ⟨fun h => by rw [← byteL_str ha, ← byteL_str hb, h], fun h => by rw [h]⟩
theorem num_beq {a b : List Int} (ha : By a) (hb : By b) : (strOfNums a == strOfNums b) = (a == b) := by
  rw [show (strOfNums a == strOfNums b) = ((strOfNums a).data == (strOfNums b).data) from rfl, Bool.eq_iff_iff, beq_iff_eq, beq_iff_eq]
  exact ⟨fun h => (num_inj ha hb).1 (ByteArray.ext h), fun h => by rw [h]⟩
theorem check_str (em : Bool) (s : ByteArray) (w : World) : (Instr.checkKey em 10000 9 (.string s)).run Tryz.prog w = .ok () w := by kernel_rfl
theorem zero_str (w : World) : (zeroValue 9).run Tryz.prog w = .ok (.string ⟨#[]⟩) w := by kernel_rfl
def enV (q : List Int × List Int) : Value × Value := (.string (strOfNums q.1), .string (strOfNums q.2))
theorem now_none (k : List Int) (hk : By k) : ∀ (es : List MapEntry) (l : List (List Int × List Int)) (i : Nat), es.map (fun e => (e.key, e.val)) = l.map enV → (∀ q ∈ l, By q.1) → l.find? (fun q => q.1 == k) = none → Instr.findNow .string (.string (strOfNums k)) es i = some none
  | [], [], _, _, _, _ => rfl
  | e :: es, q :: l, i, h, hb, hf => by
    rw [List.map_cons, List.map_cons, List.cons.injEq] at h
    have h1 : e.key = .string (strOfNums q.1) := congrArg Prod.fst h.1
    have hq : (q.1 == k) = false := by
      cases hc : (q.1 == k) with
      | false => rfl
      | true => rw [List.find?_cons, hc] at hf; cases hf
    rw [List.find?_cons, hq] at hf
    have hs : Instr.sameNow .string (.string (strOfNums k)) e.key = some false := by
      rw [h1, show Instr.sameNow .string (.string (strOfNums k)) (.string (strOfNums q.1)) = some (strOfNums k == strOfNums q.1) from rfl, num_beq hk (hb q (by simp))]
      congr 1
      rw [Bool.eq_false_iff]
      intro e2
      rw [beq_iff_eq] at e2
      rw [e2, beq_self_eq_true] at hq
      cases hq
    rw [Instr.findNow, hs]
    exact now_none k hk es l (i + 1) h.2 (fun r hr => hb r (by simp [hr])) hf
  | [], _ :: _, _, h, _, _ => by cases h
  | _ :: _, [], _, h, _, _ => by cases h
theorem now_some (k : List Int) (hk : By k) (x : List Int × List Int) : ∀ (es : List MapEntry) (l : List (List Int × List Int)) (i : Nat), es.map (fun e => (e.key, e.val)) = l.map enV → (∀ q ∈ l, By q.1) → l.find? (fun q => q.1 == k) = some x → ∃ j, Instr.findNow .string (.string (strOfNums k)) es i = some (some (j, .string (strOfNums x.2)))
  | [], [], _, _, _, hf => by cases hf
  | e :: es, q :: l, i, h, hb, hf => by
    rw [List.map_cons, List.map_cons, List.cons.injEq] at h
    have h1 : e.key = .string (strOfNums q.1) := congrArg Prod.fst h.1
    have h2 : e.val = .string (strOfNums q.2) := congrArg Prod.snd h.1
    have hs : Instr.sameNow .string (.string (strOfNums k)) e.key = some (k == q.1) := by
      rw [h1, show Instr.sameNow .string (.string (strOfNums k)) (.string (strOfNums q.1)) = some (strOfNums k == strOfNums q.1) from rfl, num_beq hk (hb q (by simp))]
    by_cases hq : q.1 = k
    · rw [List.find?_cons, show (q.1 == k) = true by simp [hq]] at hf
      cases hf
      refine ⟨i, ?_⟩
      rw [Instr.findNow, hs, show (k == x.1) = true by simp [hq], h2]
    · rw [List.find?_cons, show (q.1 == k) = false by simp [hq]] at hf
      obtain ⟨j, hj⟩ := now_some k hk x es l (i + 1) h.2 (fun r hr => hb r (by simp [hr])) hf
      refine ⟨j, ?_⟩
      rw [Instr.findNow, hs, show (k == q.1) = false by simp; exact fun e => hq e.symm]
      exact hj
  | [], _ :: _, _, h, _, _ => by cases h
  | _ :: _, [], _, h, _, _ => by cases h
/-- Block r is a map with these names and values. -/
def MapIs (w : World) (r : Nat) (l : List (List Int × List Int)) : Prop := (∀ q ∈ l, By q.1) ∧ ∃ es clock, w.heap[r]? = some (.map es clock) ∧ es.toList.map (fun e => (e.key, e.val)) = l.map enV
theorem MapIs.new (w : World) : MapIs (w.alloc (.map #[] 0)) w.heap.size [] := ⟨(fun _ h => by cases h), #[], 0, heap_alloc_new w _, rfl⟩
theorem MapIs.lt {w : World} {r : Nat} {l : List (List Int × List Int)} (h : MapIs w r l) : r < w.heap.size := by
  obtain ⟨_, es, clock, hb, _⟩ := h
  rcases Nat.lt_or_ge r w.heap.size with h1 | h1
  · exact h1
  · rw [Array.getElem?_eq_none h1] at hb; cases hb
theorem MapIs.heap {w w' : World} {r : Nat} {l : List (List Int × List Int)} (h : MapIs w r l) (he : w'.heap[r]? = w.heap[r]?) : MapIs w' r l := by
  obtain ⟨h1, es, clock, hr, hx⟩ := h
  exact ⟨h1, es, clock, he.trans hr, hx⟩
theorem MapIs.below {w w' : World} {r : Nat} {l : List (List Int × List Int)} (h : MapIs w r l) (hb : Below w.heap.size w w') : MapIs w' r l := h.heap (hb.block r h.lt)
theorem look_any {w : World} {r : Nat} {l : List (List Int × List Int)} (h : MapIs w r l) (k : List Int) (hk : By k) : (getF l k = none ∧ (Instr.lookup 131 (.map (some r)) (.string (strOfNums k)) true).run Tryz.prog w = .ok (.tuple #[.string ⟨#[]⟩, .bool false]) w) ∨
    ∃ v, getF l k = some v ∧ (Instr.lookup 131 (.map (some r)) (.string (strOfNums k)) true).run Tryz.prog w = .ok (.tuple #[.string (strOfNums v), .bool true]) w := by
  obtain ⟨h1, es, clock, hr, hx⟩ := h
  cases hf : l.find? (fun q => q.1 == k) with
  | none =>
    have hn := now_none k hk es.toList l 0 hx h1 hf
    refine .inl ⟨by unfold getF; rw [hf]; rfl, ?_⟩
    simp [Instr.lookup, Instr.findKey, run_underlying Tryz.underlying131, run_underlying Tryz.underlying9, Go.MapKept.run_getObj_map hr, check_str, hn, Result.andThen, zero_str]
  | some x =>
    obtain ⟨j, hn⟩ := now_some k hk x es.toList l 0 hx h1 hf
    refine .inr ⟨x.2, by unfold getF; rw [hf]; rfl, ?_⟩
    simp [Instr.lookup, Instr.findKey, run_underlying Tryz.underlying131, run_underlying Tryz.underlying9, Go.MapKept.run_getObj_map hr, check_str, hn, Result.andThen]
theorem map_insert {w : World} {r : Nat} {l : List (List Int × List Int)} (h : MapIs w r l) (k v : List Int) (hk : By k) (hf : l.find? (fun q => q.1 == k) = none) :
    ∃ w', (Instr.mapUpdate 131 (.map (some r)) (.string (strOfNums k)) (.string (strOfNums v))).run Tryz.prog w = .ok () w' ∧ MapIs w' r (l ++ [(k, v)]) ∧ w.grownBy w' (some r) := by
  obtain ⟨h1, es, clock, hr, hx⟩ := h
  have hn := now_none k hk es.toList l 0 hx h1 hf
  refine ⟨_, by simp [Instr.mapUpdate, Instr.findKey, run_underlying Tryz.underlying131, run_underlying Tryz.underlying9, Go.MapKept.run_getObj_map hr, check_str, hn, Go.MapKept.run_setObj_map _ hr, Result.andThen]; rfl, ⟨?_, ?_⟩, ?_⟩
  · intro q hq
    rcases List.mem_append.1 hq with h2 | h2
    · exact h1 q h2
    · rw [List.mem_singleton] at h2; subst h2; exact hk
  · refine ⟨_, _, ChangeMaps.heap_setBlock_same hr _, ?_⟩
    simp only [Array.toList_push, List.map_append, hx]
    rfl
  · exact ⟨rfl, rfl, rfl, by simp [setBlock], fun i _ hi => Go.ChangeMaps.heap_setBlock_other hr _ (fun e => hi (by rw [e]))⟩
end Go.Proofs.YtfhbpgickkibmaaGreatDoor
