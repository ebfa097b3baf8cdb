/- Contracts: the writer's text, plain, result. -/
import Derived.Test.YtfhbpgickkibmaaGreatDoorCx
import Derived.Test.YtfhbpgickkibmaaGreatDoorPj
namespace Go.Proofs.YtfhbpgickkibmaaGreatDoor
open Go.RowKit

/-- The writer at block g: what it has written. -/
structure WX (w : World) (g : Nat) (v : Value) (zs : List ByteArray) (bad : Bool) (wr : World) : Prop where
  bw : Below w.heap.size w wr
  ge : w.heap.size ≤ g
  r : Row wr g 101 [v, .bool bad]
  o : wr.ownsRow (g + 1) 9 1 v zs.length (zs.map Value.string)
theorem owns_other {w w' : World} {base : Nat} {T : TypeId} {sz n : Nat} {v : Value} {xs : List Value} (h : w.ownsRow base T sz v n xs) (hk : ∀ b, base ≤ b → b < w.heap.size → w'.heap[b]? = w.heap[b]?) : w'.ownsRow base T sz v n xs := by
  refine ⟨h.1, ?_⟩
  rcases h.2 with h0 | ⟨g, cap, cur, h1, h2, h3, h4⟩
  · exact .inl h0
  · exact .inr ⟨g, cap, cur, h1, h2, (hk g h2 (lt_of_block h3)).trans h3, h4⟩
theorem WX.below {w : World} {g : Nat} {v : Value} {zs : List ByteArray} {bad : Bool} {wr w' : World} (h : WX w g v zs bad wr) (hb : Below wr.heap.size wr w') : WX w g v zs bad w' :=
  ⟨bthen h.bw hb, h.ge, h.r.below hb, owns_other h.o fun b _ hl => hb.block b hl⟩
theorem WX.setBad {w : World} {g : Nat} {v : Value} {zs : List ByteArray} {bad : Bool} {wr : World} (h : WX w g v zs bad wr) (b2 : Bool) : WX w g v zs b2 (wr.setCell ⟨g, 1, none⟩ (.bool b2)) :=
  ⟨h.bw.setCell (p := ⟨g, 1, none⟩) h.ge _, h.ge, h.r.set 1 _, owns_other h.o fun b hb _ => Below.heap_setCell wr ⟨g, 1, none⟩ _ b (by show b ≠ g; omega)⟩
theorem wpList_pushW {w wr : World} {g : Nat} {v : Value} {zs : List ByteArray} {bad : Bool} {ops : Array Oper} {rest : List Oper} {o : Oper} {a : Act} {Q : Exit → Act → World → Prop} (hgd : o.guard = none) (s x : Operand)
    (ho : o.op = .call { callee := .builtin .append, args := #[s, x], argTypes := #[97, 97] }) (hs : a.eval s = v) (H : WX w g v zs bad wr) (p : ByteArray) (hx : a.eval x = .slice (some ⟨wr.heap.size, 0, none⟩) 1 1) (hb : zs.length + 1 ≤ 16777216)
    (h : ∀ A' m' c' w' L, Hid (L = zs ++ [p]) → L.length = zs.length + 1 → w'.cell? ⟨g, 0, none⟩ = some v → w'.frozen? ⟨g, 0, none⟩ = false → Hid (WX w g (.slice A' m' c') L bad (w'.setCell ⟨g, 0, none⟩ (.slice A' m' c'))) → wpList Tryz.prog ops Q rest (a.put o.dst (.slice A' m' c')) w') : wpList Tryz.prog ops Q (o :: rest) a (wr.alloc (.cells #[.string p] 9)) := by
  obtain ⟨i, hi, hz, hsz, hbt⟩ := infoS
  have hlt := H.r.lt
  have hbase : g + 1 ≤ (wr.alloc (.cells #[.string p] 9)).heap.size := by simp; omega
  refine wpList_append_own _ hgd s x 97 ho (g + 1) 9 i _ 1 16 Tryz.underlying97 hi hz hsz hbt rfl (by omega) v zs.length (zs.map Value.string) hs (H.o.alloc _) ⟨wr.heap.size, 0, none⟩ 1 1 [.string p] hx rfl (fun j u hu => ?_) (fun u hu => by
    simp at hu
    rcases hu with rfl; rfl) (by unfold maxLen; omega) (by omega) hbase ?_
  · rw [Addr.add_mid, Nat.zero_add]
    exact ((Row.new wr 9 [.string p]).cell j).trans hu
  · intro v' w' h2 h3 _
    have hne : v.ownBlock ≠ some g := fun e => by
      have := own_block H.o g e
      omega
    have hr : Row w' g 101 [v, .bool bad] := (H.r.alloc _).heap (h3.block g (by simp; omega) (fun e => hne e.symm))
    obtain ⟨A', m', c', rfl⟩ : ∃ A' m' c', v' = .slice A' m' c' := by
      rcases h2.2 with ⟨rfl, _⟩ | ⟨g2, cap, cur, rfl, _⟩
      · exact ⟨_, _, _, rfl⟩
      · exact ⟨_, _, _, rfl⟩
    refine h A' m' c' w' (zs ++ [p]) (Lib.hid rfl) (by simp) (hr.cell 0) (hr.frozen 0) (Lib.hid ⟨?_, H.ge, hr.set 0 _, ?_⟩)
    · have hb2 : Below w.heap.size w w' := (H.bw.alloc H.bw.size _).grown h3 (Nat.le_trans H.ge (Nat.le_trans (Nat.le_succ g) hbase)) (fun k hk => Nat.le_trans H.ge (Nat.le_trans (Nat.le_succ g) (own_block H.o k hk)))
      exact hb2.setCell (p := ⟨g, 0, none⟩) H.ge _
    · rw [List.map_append, List.length_append]
      exact owns_other h2 fun b hb _ => Below.heap_setCell w' ⟨g, 0, none⟩ _ b (by show b ≠ g; omega)
/-- The writer says these parts. -/
def WS (w : World) (g : Nat) (L : Option (List (List Int))) (n : Nat) (wr : World) : Prop := ∃ v zs, zs.length = n ∧ WX w g v zs L.isNone wr ∧ (∀ l, L = some l → zs.map byteL = l ∧ ∀ p ∈ l, p.length ≤ 9000000)
theorem WS.below {w : World} {g n : Nat} {L : Option (List (List Int))} {wr w' : World} (h : WS w g L n wr) (hb : Below wr.heap.size wr w') : WS w g L n w' := by
  obtain ⟨v, zs, h1, h2, h3⟩ := h
  exact ⟨v, zs, h1, h2.below hb, h3⟩
theorem WS.bw {w : World} {g n : Nat} {L : Option (List (List Int))} {wr : World} (h : WS w g L n wr) : Below w.heap.size w wr := by
  obtain ⟨v, zs, h1, h2, h3⟩ := h
  exact h2.bw
theorem WS.push {w : World} {g n : Nat} {v : Value} {zs ZS : List ByteArray} {L : Option (List (List Int))} {p : ByteArray} {wr : World} (hx : WX w g v ZS L.isNone wr) (hZ : ZS = zs ++ [p]) (hn : zs.length = n) (hl : ∀ l, L = some l → zs.map byteL = l ∧ ∀ p ∈ l, p.length ≤ 9000000) (hp : p.size ≤ 9000000) : WS w g (addP L (byteL p)) (n + 1) wr := by
  subst hZ
  refine ⟨v, zs ++ [p], by simp [hn], by rw [show (addP L (byteL p)).isNone = L.isNone by unfold addP; cases L <;> rfl]; exact hx, fun l hl2 => ?_⟩
  unfold addP at hl2
  rw [Option.map_eq_some_iff] at hl2
  obtain ⟨l0, h0, rfl⟩ := hl2
  obtain ⟨h1, h2⟩ := hl l0 h0
  refine ⟨by rw [List.map_append, h1]; rfl, fun q hq => ?_⟩
  rcases List.mem_append.1 hq with h | h
  · exact h2 q h
  · rw [List.mem_singleton] at h
    subst h
    rw [byteL_len]; exact hp
theorem joinO_any {w : World} {base : Nat} {v : Value} {zs : List ByteArray} (H : w.ownsRow base 9 1 v zs.length (zs.map Value.string)) (sep : ByteArray) (hl : zs.length ≤ 1000000) (hj : (joinL (byteL sep) (zs.map byteL)).length ≤ 140737488355328) :
    Calls Tryz.prog 85 #[v, .string sep] w fun e w' => e = .returned (.string (strOfNums (joinL (byteL sep) (zs.map byteL)))) ∧ Below w.heap.size w w' := by
  rcases owns_form H with ⟨rfl, hz⟩ | ⟨g, cap, rfl, hcap, _, hlt, hc⟩
  · have hz' : zs = [] := List.map_eq_nil_iff.1 hz
    subst hz'
    exact (Tryz.strings_Join_none none 0 sep w).mono fun e w' ⟨he, hw⟩ => ⟨he, hw ▸ Below.refl _ _⟩
  · refine (Tryz.strings_Join g 0 cap zs sep w (fun j x hx => hc j _ (by rw [List.getElem?_map, hx]; rfl)) hlt (by omega) hcap ?_).mono fun e w' ⟨he, hb⟩ => ⟨by rw [he, mk_str (bl_join2 zs sep)], hb⟩
    have hlen : (bl (Lib.join (zs.map (·.data.toList)) sep.data.toList)).length = (Lib.join (zs.map (·.data.toList)) sep.data.toList).length := by unfold bl; rw [List.length_map]
    rw [← hlen, bl_join2]
    exact hj
set_option maxRecDepth 100000 in
theorem plain_any (w0 : World) (g n : Nat) (L : Option (List (List Int))) (p : ByteArray) (w : World) (H : WS w0 g L n w) (hn : n ≤ 100) (hp : p.size ≤ 9000000) :
    Calls Tryz.prog 47 #[.pointer (some ⟨g, 0, none⟩), .string p] w fun e w' => e = .returned (.tuple #[]) ∧ WS w0 g (addP L (byteL p)) (n + 1) w' := by
  obtain ⟨v, zs, hzn, hx, hl⟩ := H
  have HX := Lib.hid hx; have HL := Lib.hid hl; have HZ := Lib.hid hzn
  have PU := Lib.hid (fun v' L' w' (h1 : WX w0 g v' L' L.isNone w') (h2 : L' = zs ++ [p]) => WS.push h1 h2 HZ.out HL.out hp)
  have hzl : zs.length ≤ 100 := by omega
  clear hzn hx hl
  generalize L.isNone = bad at *
  have c0 : w.cell? ⟨g, 0, none⟩ = some v := HX.out.r.cell 0
  go_enter Tryz.func47, Tryz.ntmps47
  go_wp2_with (with_reducible refine wpList_pushW rfl (.tmp 8) (.tmp 10) rfl rfl HX.out p rfl (by omega) ?_)
  clear c0
  intro A3 m3 k3 w3 L3 E3 l3 c3 f3 M3
  go_wp2_with fail
  go_end0
  exact ⟨rfl, PU.out _ _ _ M3.out E3.out⟩
set_option maxRecDepth 100000 in
theorem result_any (w0 : World) (g n : Nat) (L : Option (List (List Int))) (w : World) (H : WS w0 g L n w) (hn : n ≤ 100) :
    Calls Tryz.prog 49 #[.pointer (some ⟨g, 0, none⟩)] w fun e w' => e = .returned (prV L) ∧ Below w.heap.size w w' := by
  obtain ⟨v, zs, hzn, hx, hl⟩ := H
  have HX := Lib.hid hx; have HL := Lib.hid hl
  clear hx hl
  cases L with
  | none =>
    have c1 : w.cell? ⟨g, 1, none⟩ = some (.bool true) := HX.out.r.cell 1
    go_enter Tryz.func49, Tryz.ntmps49
    go_wp2_with fail
    go_ret2
    exact ⟨rfl, Below.refl _ _⟩
  | some l =>
    have c1 : w.cell? ⟨g, 1, none⟩ = some (.bool false) := HX.out.r.cell 1
    have c0 : w.cell? ⟨g, 0, none⟩ = some v := HX.out.r.cell 0
    have JL := joinL_len [44, 32] 9000000 l (HL.out l rfl).2
    have hll : l.length = zs.length := by rw [← (HL.out l rfl).1, List.length_map]
    have hj : (joinL (byteL ⟨#[44, 32]⟩) (zs.map byteL)).length ≤ 140737488355328 := by
      rw [(HL.out l rfl).1, show byteL ⟨#[44, 32]⟩ = [44, 32] from rfl]
      have h3 : l.length * (9000000 + [44, 32].length) ≤ 100 * 9000002 := Nat.mul_le_mul (by omega) (by simp)
      omega
    go_enter Tryz.func49, Tryz.ntmps49
    go_wp2_with fail
    refine (joinO_any HX.out.o ⟨#[44, 32]⟩ (by omega) hj).mono ?_
    rintro e w1 ⟨rfl, hb1⟩
    have B1 := Lib.hid hb1
    rw [(HL.out l rfl).1] at hj ⊢
    have hj2 : (strOfNums (joinL (byteL ⟨#[44, 32]⟩) l)).size ≤ 140737488355328 := by rw [num_size]; exact hj
    clear hb1 JL hj
    go_wp2_with fail
    go_ret2
    exact ⟨rfl, B1.out⟩
end Go.Proofs.YtfhbpgickkibmaaGreatDoor
