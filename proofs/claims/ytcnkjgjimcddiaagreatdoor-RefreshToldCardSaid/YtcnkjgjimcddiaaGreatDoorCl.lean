/- Contracts: auth's lower, the reference 02's Lower. -/
import Derived.Test.YtcnkjgjimcddiaaGreatDoorCc
import Derived.Test.YtcnkjgjimcddiaaGreatDoorPe
import Derived.Laws.IdiomStrings
namespace Go.Proofs.YtcnkjgjimcddiaaGreatDoor
open Go.RowKit

/-- Block b begins with these bytes; they may be written. -/
structure BR (w : World) (b : Nat) (xs : List Int) : Prop where
  lt : b < w.heap.size
  c : ∀ j x, xs[j]? = some x → w.cell? ⟨b, j, none⟩ = some (.int .u8 x)
  f : ∀ j, j < xs.length → w.frozen? ⟨b, j, none⟩ = false
theorem BR.below {w w' : World} {b : Nat} {xs : List Int} (h : BR w b xs) {B : Nat} (hb : Below B w w') (hB : b < B) : BR w' b xs :=
  ⟨Nat.lt_of_lt_of_le h.lt (by have := hb.size; omega), fun j x hx => (hb.cell (p := ⟨b, j, none⟩) hB).trans (h.c j x hx), fun j hj => (hb.frozen (p := ⟨b, j, none⟩) hB).trans (h.f j hj)⟩
theorem BR.set {w : World} {b : Nat} {xs : List Int} (h : BR w b xs) {i : Nat} (hi : i < xs.length) (y : Int) : BR (w.setCell ⟨b, i, none⟩ (.int .u8 y)) b (xs.set i y) := by
  have h0 := h.c i _ (getD_some hi)
  refine ⟨by simpa [World.setCell] using h.lt, fun j x hx => ?_, fun j hj => ?_⟩
  · by_cases e : i = j
    · subst e
      rw [List.getElem?_set_self hi] at hx
      cases hx
      exact World.cell?_setCell_same _ _ _ h0
    · rw [List.getElem?_set_ne e] at hx
      rw [World.cell?_setCell_other _ _ _ _ (by intro h1; injection h1; contradiction)]
      exact h.c j x hx
  · rw [World.frozen?_setCell]
    exact h.f j (by simpa using hj)
theorem BR.bs {w : World} {b : Nat} {xs : List Int} (h : BR w b xs) : Bs w w.heap.size (some ⟨b, 0, none⟩) xs := fun _ => ⟨_, rfl, h.lt, fun j x hx => by
  rw [Addr.add_mid, Nat.zero_add]
  exact h.c j x hx⟩
theorem BR.conv {w : World} {b : Nat} {xs : List Int} (h : BR w b xs) (n cap : Nat) (hn : xs.length = n) : (convert 49 9 (.slice (some ⟨b, 0, none⟩) n cap)).run Tryz.prog w = .ok (.string (strOfNums xs)) w :=
  run_convert_bytes_arg (P := Tryz.prog) w 49 5 Tryz.underlying49 Tryz.underlying5 b 0 n cap xs hn (fun j hj => by
    rw [Nat.zero_add]
    exact h.c j _ (getD_some (by omega))) 9 Tryz.underlying9
/-- []byte(s): a new block with the text's bytes. -/
theorem wpList_bytesW {ops : Array Oper} {rest : List Oper} {op : Oper} {a : Act} {w : World} {Q : Exit → Act → World → Prop} (hgd : op.guard = none) (x : Operand) (ho : op.op = .convert 9 49 x) (s : ByteArray) (hx : a.eval x = .string s)
    (h : ∀ cap w', s.size ≤ cap → Hid (BR w' w.heap.size (byteL s)) → Hid (Below w.heap.size w w') → wpList Tryz.prog ops Q rest (a.put op.dst (.slice (some ⟨w.heap.size, 0, none⟩) s.size cap)) w') : wpList Tryz.prog ops Q (op :: rest) a w := by
  have hr := run_bytes_of_string (P := Tryz.prog) w 9 49 5 s Tryz.underlying9 Tryz.underlying49 Tryz.underlying5
  have hge := grownCap_ge w s.size 0 5
  generalize grownCap w s.size 0 5 = cap at *
  refine wpList_value hgd _ (w.drew.alloc (Obj.cells (bytesRow s cap) 5 ((bytesRow s cap).size, (bytesRow s cap).size + 1))) ?_ (h cap _ hge (Lib.hid ⟨by simp [World.size_alloc], fun j u hu => ?_, fun j hj => ?_⟩) (Lib.hid ?_))
  · unfold execOp
    simp only [ho, hx, Sem.run_bind, hr, Result.andThen_ok, Sem.run_pure]
  · refine (World.cell?_alloc_mark w.drew _ 5 _ j).trans ?_
    have hj : j < (byteL s).length := (List.getElem?_eq_some_iff.1 hu).1
    rw [byteL_len] at hj
    unfold bytesRow
    rw [Array.getElem?_append_left (by simpa using hj)]
    unfold byteL at hu
    simp at hu ⊢
    obtain ⟨c, hc, rfl⟩ := hu
    exact ⟨c, hc, rfl⟩
  · refine (World.frozen?_alloc_mark w.drew _ 5 _ _ j).trans ?_
    rw [byteL_len] at hj
    have hz : (bytesRow s cap).size = cap := by
      unfold bytesRow
      rw [Array.size_append, Array.size_map, Array.size_replicate]
      show s.size + (cap - s.size) = cap
      omega
    rw [hz, decide_eq_false (by omega)]
    rfl
  · exact ((Below.refl w.heap.size w).drew).alloc (Nat.le_refl _) _
def lowK (xs : List Int) (k : Nat) : List Int := lowS (xs.take k) ++ xs.drop k
theorem lowK_len (xs : List Int) (k : Nat) : (lowK xs k).length = xs.length := by
  unfold lowK; rw [List.length_append, lowS_len, List.length_take, List.length_drop]; omega
theorem lowK_all {xs : List Int} {k : Nat} (h : xs.length ≤ k) : lowK xs k = lowS xs := by
  unfold lowK; rw [List.take_of_length_le h, List.drop_of_length_le h, List.append_nil]
theorem lowK_at {xs : List Int} {k : Nat} (h : k < xs.length) : (lowK xs k)[k]? = some (xs.getD k 0) := by
  unfold lowK
  rw [List.getElem?_append_right (by rw [lowS_len, List.length_take]; omega), lowS_len, List.length_take, show k - min k xs.length = 0 by omega, drop_consI xs h]
  rfl
theorem lowK_set {xs : List Int} {k : Nat} (h : k < xs.length) : (lowK xs k).set k (lowC (xs.getD k 0)) = lowK xs (k + 1) := by
  unfold lowK
  rw [List.set_append_right _ _ (by rw [lowS_len, List.length_take]; omega), lowS_len, List.length_take, show k - min k xs.length = 0 by omega, drop_consI xs h, List.set_cons_zero, take_snocI xs h]
  unfold lowS
  simp
theorem lowK_same {xs : List Int} {k : Nat} (h : k < xs.length) (hc : lowC (xs.getD k 0) = xs.getD k 0) : lowK xs k = lowK xs (k + 1) := by
  rw [← lowK_set h, hc]
  have h1 := lowK_at h
  obtain ⟨h2, h3⟩ := List.getElem?_eq_some_iff.1 h1
  rw [← h3]
  exact (List.set_getElem_self h2).symm
def LWR (w w0 : World) (xs : List Int) (v : Value) (wr : World) : Prop := ∃ k : Nat, k ≤ xs.length ∧ v = .int .i64 k ∧ Hid (BR wr w.heap.size (lowK xs k) ∧ Below w.heap.size w wr)
end Go.Proofs.YtcnkjgjimcddiaaGreatDoor
