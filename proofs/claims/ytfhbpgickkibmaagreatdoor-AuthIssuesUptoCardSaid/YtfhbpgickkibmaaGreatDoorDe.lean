/- Memory words of ParseCredentials. -/
import Derived.Test.YtfhbpgickkibmaaGreatDoorDc
import Derived.Test.YtfhbpgickkibmaaGreatDoorPj
namespace Go.Proofs.YtfhbpgickkibmaaGreatDoor
open Go.RowKit

theorem size9 : (Tryz.prog.info? 23).map (·.size) = some 9 := by kernel_rfl
abbrev Z9 : List Value := [.string ⟨#[]⟩, .string ⟨#[]⟩, .string ⟨#[]⟩, .string ⟨#[]⟩, .string ⟨#[]⟩, .string ⟨#[]⟩, .string ⟨#[]⟩, .int .i64 0, .bool false]
theorem sizeL9 (a b c d e f g h i : Value) : (Tryz.prog.info? 23).map (·.size) = some [a, b, c, d, e, f, g, h, i].length := size9
theorem lenL9 (a b c d e f g h i a' b' c' d' e' f' g' h' i' : Value) : [a, b, c, d, e, f, g, h, i].length = [a', b', c', d', e', f', g', h', i'].length := rfl
theorem p9_one (a b c d e f g : ByteArray) (k : Int) (h : Bool) : ∀ u ∈ [Value.string a, .string b, .string c, .string d, .string e, .string f, .string g, .int .i64 k, .bool h], u.oneCell' = true := fun u hu => by
  simp at hu
  rcases hu with rfl | rfl | rfl | rfl | rfl | rfl | rfl | rfl | rfl <;> rfl
theorem sizeI (a b : Value) : (Tryz.prog.info? 86).map (·.size) = some [a, b].length := by
  have h : (Tryz.prog.info? 86).map (·.size) = some 2 := by kernel_rfl
  exact h
theorem i2_one (a : ByteArray) (p : Option Addr) : ∀ u ∈ [Value.string a, .pointer p], u.oneCell' = true := fun u hu => by
  simp at hu
  rcases hu with rfl | rfl <;> rfl
/-- What the walk keeps of memory: the result's block, the closure's map, the credentials' block B with these values, the count's text. -/
structure CB (w : World) (B cb mb : Nat) (l : List (List Int × List Int)) (vs : List Value) (nv : Value) (wr : World) : Prop where
  bw : Below w.heap.size w wr
  r : Row wr w.heap.size 23 Z9
  c : wr.cell? ⟨cb, 0, none⟩ = some (.map (some mb))
  m : MapIs wr mb l
  b : Row wr B 23 vs
  n : Row wr (B + 1) 9 [nv]
  h : w.heap.size < B ∧ cb < B ∧ mb < B
theorem CB.below {w : World} {B cb mb : Nat} {l : List (List Int × List Int)} {vs : List Value} {nv : Value} {wr w' : World} (h : CB w B cb mb l vs nv wr) (hb : Below wr.heap.size wr w') : CB w B cb mb l vs nv w' :=
  ⟨bthen h.bw hb, h.r.below hb, (hb.cell (p := ⟨cb, 0, none⟩) (by show cb < _; have := h.b.lt; have := h.h; omega)).trans h.c, h.m.below hb, h.b.below hb, h.n.below hb, h.h⟩
theorem CB.set {w : World} {B cb mb : Nat} {l : List (List Int × List Int)} {vs : List Value} {nv : Value} {wr : World} (h : CB w B cb mb l vs nv wr) (o : Nat) (u : Value) : CB w B cb mb l (vs.set o u) nv (wr.setCell ⟨B, o, none⟩ u) := by
  have hh := h.h
  have hk : ∀ b, b ≠ B → (wr.setCell ⟨B, o, none⟩ u).heap[b]? = wr.heap[b]? := fun b hb => Below.heap_setCell wr ⟨B, o, none⟩ u b hb
  exact ⟨h.bw.setCell (p := ⟨B, o, none⟩) (Nat.le_of_lt hh.1) _, h.r.of (hk _ (by omega)), (World.cell?_of_block (a := ⟨cb, 0, none⟩) (hk cb (by omega))).trans h.c, h.m.heap (hk _ (by omega)), h.b.set o u, h.n.of (hk _ (by omega)), hh⟩
theorem CB.setN {w : World} {B cb mb : Nat} {l : List (List Int × List Int)} {vs : List Value} {nv : Value} {wr : World} (h : CB w B cb mb l vs nv wr) (u : Value) : CB w B cb mb l vs u (wr.setCell ⟨B + 1, 0, none⟩ u) := by
  have hh := h.h
  have hk : ∀ b, b ≠ B + 1 → (wr.setCell ⟨B + 1, 0, none⟩ u).heap[b]? = wr.heap[b]? := fun b hb => Below.heap_setCell wr ⟨B + 1, 0, none⟩ u b hb
  exact ⟨h.bw.setCell (p := ⟨B + 1, 0, none⟩) (by show _ ≤ B + 1; omega) _, h.r.of (hk _ (by omega)), (World.cell?_of_block (a := ⟨cb, 0, none⟩) (hk cb (by omega))).trans h.c, h.m.heap (hk _ (by omega)), h.b.of (hk _ (by omega)), h.n.set 0 u, hh⟩
/-- The value of a wanted field after i rounds. -/
def vv (l : List (List Int × List Int)) (i j : Nat) : Value := .string (if j < i then strOfNums (gotF l (NMS.getD j [])) else ⟨#[]⟩)
def crL (l : List (List Int × List Int)) (i : Nat) : List Value := [vv l i 0, vv l i 1, vv l i 2, vv l i 3, vv l i 4, vv l i 5, .string ⟨#[]⟩, .int .i64 0, .bool false]
def items (B : Nat) : List Value := [.string ⟨#[117, 115, 101, 114, 110, 97, 109, 101]⟩, .pointer (some ⟨B, 0, none⟩), .string ⟨#[114, 101, 97, 108, 109]⟩, .pointer (some ⟨B, 1, none⟩), .string ⟨#[110, 111, 110, 99, 101]⟩, .pointer (some ⟨B, 2, none⟩),
  .string ⟨#[117, 114, 105]⟩, .pointer (some ⟨B, 3, none⟩), .string ⟨#[114, 101, 115, 112, 111, 110, 115, 101]⟩, .pointer (some ⟨B, 4, none⟩), .string ⟨#[99, 110, 111, 110, 99, 101]⟩, .pointer (some ⟨B, 5, none⟩), .string ⟨#[110, 99]⟩, .pointer (some ⟨B + 1, 0, none⟩)]
structure CS (w : World) (B cb mb : Nat) (l : List (List Int × List Int)) (i : Nat) (wr : World) : Prop where
  b : CB w B cb mb l (crL l i) (vv l i 6) wr
  s : Row wr (B + 2) 86 (items B)
theorem CS.below {w : World} {B cb mb : Nat} {l : List (List Int × List Int)} {i : Nat} {wr w' : World} (h : CS w B cb mb l i wr) (hb : Below wr.heap.size wr w') : CS w B cb mb l i w' := ⟨h.b.below hb, h.s.below hb⟩
/-- One round: the name and the place of its text. -/
def CAt (w : World) (B cb mb : Nat) (l : List (List Int × List Int)) (i : Nat) (nm : ByteArray) (pb po : Nat) : Prop :=
  byteL nm = NMS.getD i [] ∧ ∀ wr, CS w B cb mb l i wr → wr.rangeAt (B + 2) (i * 2) [.string nm, .pointer (some ⟨pb, po, none⟩)] ∧ wr.cell? ⟨pb, po, none⟩ = some (.string ⟨#[]⟩) ∧ wr.frozen? ⟨pb, po, none⟩ = false ∧ CS w B cb mb l (i + 1) (wr.setCell ⟨pb, po, none⟩ (.string (strOfNums (gotF l (NMS.getD i [])))))
theorem items_range {wr : World} {B i : Nat} {T : TypeId} {a b : Value} (h : Row wr (B + 2) T (items B)) (ha : (items B)[i * 2]? = some a) (hb : (items B)[i * 2 + 1]? = some b) : wr.rangeAt (B + 2) (i * 2) [a, b] := fun j u hu => by
  rw [h.cell]
  match j, hu with
  | 0, hu => cases hu; exact ha
  | 1, hu => cases hu; exact hb
theorem catB (w : World) (B cb mb : Nat) (l : List (List Int × List Int)) (i : Nat) (nm : ByteArray) (hn : byteL nm = NMS.getD i []) (ha : (items B)[i * 2]? = some (.string nm)) (hb : (items B)[i * 2 + 1]? = some (.pointer (some ⟨B, i, none⟩)))
    (h0 : (crL l i)[i]? = some (.string ⟨#[]⟩)) (h1 : (crL l i).set i (.string (strOfNums (gotF l (NMS.getD i [])))) = crL l (i + 1)) (h2 : vv l i 6 = vv l (i + 1) 6) : CAt w B cb mb l i nm B i :=
  ⟨hn, fun wr h => ⟨items_range h.s ha hb, by rw [h.b.b.cell]; exact h0, h.b.b.frozen i, by
    have hs := h.b.set i (.string (strOfNums (gotF l (NMS.getD i []))))
    rw [h1, h2] at hs
    exact ⟨hs, h.s.setOther (by omega) _⟩⟩⟩
theorem cat_any (w : World) (B cb mb : Nat) (l : List (List Int × List Int)) : ∀ i, i < 7 → ∃ nm pb po, CAt w B cb mb l i nm pb po
  | 0, _ => ⟨_, _, _, catB w B cb mb l 0 ⟨#[117, 115, 101, 114, 110, 97, 109, 101]⟩ rfl rfl rfl rfl rfl rfl⟩
  | 1, _ => ⟨_, _, _, catB w B cb mb l 1 ⟨#[114, 101, 97, 108, 109]⟩ rfl rfl rfl rfl rfl rfl⟩
  | 2, _ => ⟨_, _, _, catB w B cb mb l 2 ⟨#[110, 111, 110, 99, 101]⟩ rfl rfl rfl rfl rfl rfl⟩
  | 3, _ => ⟨_, _, _, catB w B cb mb l 3 ⟨#[117, 114, 105]⟩ rfl rfl rfl rfl rfl rfl⟩
  | 4, _ => ⟨_, _, _, catB w B cb mb l 4 ⟨#[114, 101, 115, 112, 111, 110, 115, 101]⟩ rfl rfl rfl rfl rfl rfl⟩
  | 5, _ => ⟨_, _, _, catB w B cb mb l 5 ⟨#[99, 110, 111, 110, 99, 101]⟩ rfl rfl rfl rfl rfl rfl⟩
  | 6, _ => ⟨⟨#[110, 99]⟩, B + 1, 0, rfl, fun wr h => ⟨items_range h.s rfl rfl, h.b.n.cell 0, h.b.n.frozen 0, by
      have hs := h.b.setN (.string (strOfNums (gotF l (NMS.getD 6 []))))
      exact ⟨hs, h.s.setOther (by omega) _⟩⟩⟩
  | i + 7, h => absurd h (by omega)
end Go.Proofs.YtfhbpgickkibmaaGreatDoor
