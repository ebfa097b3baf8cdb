/- Contract: address.Parse. -/
import Derived.Test.YthfonniieaiocaaGreatDoorUm
import Derived.Test.YthfonniieaiocaaGreatDoorFe
set_option linter.unusedVariables false
set_option linter.unusedSimpArgs false
namespace Go.Proofs.YthfonniieaiocaaGreatDoor
open Go.RowKit

def uZ : List Value := [.string ⟨#[]⟩, .string ⟨#[]⟩, .string ⟨#[]⟩, .int .i64 0, .slice none 0 0, .slice none 0 0]
def UriP (w : World) (R : Except (Nat × Int) Uri) (e : Ending) (w' : World) : Prop := match R with
  | .error q => e = .returned (.tuple #[.agg #[.string ⟨#[]⟩, .string ⟨#[]⟩, .string ⟨#[]⟩, .int .i64 0, .slice none 0 0, .slice none 0 0], .int .i64 (q.1 : Nat), .int .u8 q.2]) ∧ Below w.heap.size w w' ∧ q.2 ≠ 0
  | .ok u => ∃ v1 v2, e = .returned (.tuple #[.agg #[.string (strOfNums u.sc), .string (strOfNums u.us), .string (strOfNums u.ho), .int .i64 u.po, v1, v2], .int .i64 0, .int .u8 0]) ∧ VX 56 3 w v1 u.ps.length (pms u.ps) w' ∧ VX 56 3 w v2 u.hs.length (pms u.hs) w'
theorem sizeU (a b c d e f : Value) : (Tryz.prog.info? 32).map (·.size) = some [a, b, c, d, e, f].length := show (Tryz.prog.info? 32).map (·.size) = some 6 by kernel_rfl
theorem lenU (a b c d e f a' b' c' d' e' f' : Value) : [a, b, c, d, e, f].length = [a', b', c', d', e', f'].length := rfl
theorem u_one (a b c : ByteArray) (d : Int) {A B : Option Addr} {n m c1 c2 : Nat} : ∀ u ∈ [Value.string a, .string b, .string c, .int .i64 d, .slice A n c1, .slice B m c2], u.oneCell' = true := fun u hu => by
  simp only [List.mem_cons, List.not_mem_nil, or_false] at hu
  rcases hu with rfl | rfl | rfl | rfl | rfl | rfl <;> rfl
theorem PK.of_mine {w wr : World} {cb ub a : Nat} {s : ByteArray} {us : List Value} {F : List (World → Prop)} (h : Mine w wr (LP cb ub s a us) F) : PK w cb s a [] (.slice none 0 0) [(ub, 32, us)] wr := by
  refine ⟨⟨mine_c h, h.ge (i := 0) rfl, World.ownsRow_nil _ _ _ _, h.bw⟩, fun r hr => ?_, (fun r hr g hg => by cases hg), fun r hr => ?_⟩
  · rw [List.mem_singleton] at hr; subst hr; exact mine_u h
  · rw [List.mem_singleton] at hr; subst hr; exact (rowT_ne (mine_c h) (mine_u h) (by decide)).symm
theorem mine_ub {w wr : World} {cb ub a : Nat} {s : ByteArray} {us : List Value} {F : List (World → Prop)} (h : Mine w wr (LP cb ub s a us) F) : w.heap.size ≤ ub := h.ge (i := 1) rfl
def STP (stb : ByteArray) (st : List Int) : Prop := (stb = ⟨#[59, 63]⟩ ∧ st = [59, 63]) ∨ (stb = ⟨#[59]⟩ ∧ st = [59])
theorem stp_until {stb : ByteArray} {st : List Int} (h : STP stb st) (s : ByteArray) (a : Nat) (w : World) (hs : s.size ≤ 4000000) (ha : a ≤ s.size) : Calls Tryz.prog 71 #[.agg #[.string s], .int .i64 a, .string stb] w fun e w' => e = .returned (.int .i64 (untilL (byteL s) a st : Nat)) ∧ Below w.heap.size w w' := by
  rcases h with ⟨rfl, rfl⟩ | ⟨rfl, rfl⟩
  · exact until_any s ⟨#[59, 63]⟩ a w hs ha (by decide) (by decide) asc_59
  · exact until_any s ⟨#[59]⟩ a w hs ha (by decide) (by decide) asc_3b
theorem asc_38 : Asc7 ⟨#[38]⟩ := fun j b h => by
  have hm := List.mem_of_getElem? h
  simp only [List.mem_cons, List.not_mem_nil, or_false] at hm
  subst hm; decide
def uK (ub : Nat) (sc us ho : List Int) (po : Int) (v1 v2 : Value) : Blk := (ub, 32, [.string (strOfNums sc), .string (strOfNums us), .string (strOfNums ho), .int .i64 po, v1, v2])
def Lp1 (wb : World) (cb ub : Nat) (s : ByteArray) (st sc us ho : List Int) (po : Int) (R : Except (Nat × Int) Uri) (g : Nat) (v8 v9 : Value) (wx : World) : Prop :=
  (∃ (n : Nat) (k : Int), v8 = .int .i64 n ∧ v9 = .int .u8 k ∧ k ≠ 0 ∧ Hid (R = .error (n, k)) ∧ Hid (Below wb.heap.size wb wx)) ∨
  (∃ (a f : Nat) (l : List Pm) (v : Value), v8 = .int .i64 0 ∧ v9 = .int .u8 0 ∧ a ≤ s.size ∧ a + g = s.size + 1 ∧ s.size + 1 ≤ f + a ∧ l.length ≤ 16 ∧ Hid (R = psR (byteL s) st sc us ho po f a l) ∧ Hid (LOK 1 l) ∧ Hid (PK wb cb s a l v [uK ub sc us ho po v (.slice none 0 0)] wx))
def Lp2 (wb : World) (cb ub : Nat) (s : ByteArray) (sc us ho : List Int) (po : Int) (ps : List Pm) (v1 : Value) (K2 : List Blk) (R : Except (Nat × Int) Uri) (g : Nat) (v8 v9 : Value) (wx : World) : Prop :=
  (∃ (n : Nat) (k : Int), v8 = .int .i64 n ∧ v9 = .int .u8 k ∧ k ≠ 0 ∧ Hid (R = .error (n, k)) ∧ Hid (Below wb.heap.size wb wx)) ∨
  (∃ (a f : Nat) (l : List Pm) (v : Value), v8 = .int .i64 0 ∧ v9 = .int .u8 0 ∧ a ≤ s.size ∧ a + g = s.size + 1 ∧ s.size + 1 ≤ f + a ∧ l.length ≤ 16 ∧ Hid (R = hdR (byteL s) sc us ho po ps f a l) ∧ Hid (LOK 2 l) ∧ Hid (PK wb cb s a l v (uK ub sc us ho po v1 v :: K2) wx))
def Mid (wb : World) (cb ub : Nat) (s : ByteArray) (sc us ho : List Int) (po : Int) (R : Except (Nat × Int) Uri) (v8 v9 : Value) (wx : World) : Prop :=
  (∃ (n : Nat) (k : Int), v8 = .int .i64 n ∧ v9 = .int .u8 k ∧ k ≠ 0 ∧ Hid (R = .error (n, k)) ∧ Hid (Below wb.heap.size wb wx)) ∨
  (∃ (a : Nat) (l : List Pm) (v : Value), v8 = .int .i64 0 ∧ v9 = .int .u8 0 ∧ a ≤ s.size ∧ l.length ≤ 16 ∧ Hid (R = hdR (byteL s) sc us ho po l (s.size + 1) a []) ∧ Hid (LOK 1 l) ∧ Hid (PK wb cb s a l v [uK ub sc us ho po v (.slice none 0 0)] wx))
def Fin (wb : World) (cb ub : Nat) (s : ByteArray) (sc us ho : List Int) (po : Int) (ps : List Pm) (v1 : Value) (K2 : List Blk) (R : Except (Nat × Int) Uri) (v8 v9 : Value) (wx : World) : Prop :=
  (∃ (n : Nat) (k : Int), v8 = .int .i64 n ∧ v9 = .int .u8 k ∧ k ≠ 0 ∧ Hid (R = .error (n, k)) ∧ Hid (Below wb.heap.size wb wx)) ∨
  (∃ (a : Nat) (l : List Pm) (v : Value), v8 = .int .i64 0 ∧ v9 = .int .u8 0 ∧ l.length ≤ 16 ∧ Hid (R = .ok ⟨sc, us, ho, po, sortPm ps, sortPm l⟩) ∧ Hid (LOK 2 l) ∧ Hid (PK wb cb s a l v (uK ub sc us ho po v1 v :: K2) wx))
theorem fld_one {wb w' : World} {cb b : Nat} {s : ByteArray} {ub : Nat} {us : List Value} {K2 : List Blk} {F : Except (Nat × Int) (List Pm)} {e : Ending} (h : FldP wb cb s ((ub, 32, us) :: K2) b F e w') : ∃ (A : Option Addr) (n c : Nat) (z : Nat) (kk : Int), e = .returned (.tuple #[.slice A n c, .int .i64 z, .int .u8 kk]) ∧ Row w' ub 32 us ∧
    ((kk ≠ 0 ∧ F = .error (z, kk) ∧ Below wb.heap.size wb w') ∨ (kk = 0 ∧ z = 0 ∧ ∃ m, F = .ok m ∧ PK wb cb s b m (.slice A n c) ((ub, 32, us) :: K2) w')) := by
  cases F with
  | error q => obtain ⟨rfl, h2, h3, h4⟩ := h; exact ⟨none, 0, 0, q.1, q.2, rfl, h3 (ub, 32, us) (by simp), .inl ⟨h4, rfl, h2⟩⟩
  | ok m =>
    obtain ⟨v, rfl, h2⟩ := h
    obtain ⟨A, c, hv, _⟩ := h2.form
    subst hv
    exact ⟨A, _, c, 0, 0, rfl, h2.k (ub, 32, us) (by simp), .inr ⟨rfl, rfl, m, rfl, h2⟩⟩
structure SR (wb : World) (ub : Nat) (us : List Value) (K : List Blk) (W : World) : Prop where
  u : Row W ub 32 us
  k : ∀ r ∈ K, Row W r.1 r.2.1 r.2.2
  b : Below wb.heap.size wb W
theorem SR.call {wb W W' : World} {ub : Nat} {us : List Value} {K : List Blk} (h : SR wb ub us K W) (hb : Below W.heap.size W W') : SR wb ub us K W' := ⟨h.u.below hb, fun r hr => (h.k r hr).below hb, bthen h.b hb⟩
theorem vx_put2 {wb W : World} {ub : Nat} {us : List Value} {v u4 u5 : Value} {n : Nat} {cs : List Value} (X : VX 56 3 wb v n cs W) (hr : Row W ub 32 us) (hb : Below wb.heap.size wb ((W.setCell ⟨ub, 4, none⟩ u4).setCell ⟨ub, 5, none⟩ u5)) : VX 56 3 wb v n cs ((W.setCell ⟨ub, 4, none⟩ u4).setCell ⟨ub, 5, none⟩ u5) :=
  X.other hb fun g hg => by
    have hne := rowT_nv hr X (by decide) g hg
    rw [Below.heap_setCell _ ⟨ub, 5, none⟩ u5 g hne, Below.heap_setCell _ ⟨ub, 4, none⟩ u4 g hne]
theorem vx_res {w wb w7 w9 : World} {T : TypeId} {sz n : Nat} {v : Value} {cs : List Value} (X : VX T sz wb v n cs w7) (WB : Below w.heap.size w wb) (hs : w.heap.size < wb.heap.size) (hg : w7.grownBy w9 (some w.heap.size)) (hb : Below w.heap.size w w9) : VX T sz w v n cs w9 :=
  (X.base WB).other hb fun g hg2 => hg.block g (X.own_lt hg2) (fun e => by injection e with e; have := own_block X.o g hg2; omega)
def SwR (wb : World) (cb ub : Nat) (s : ByteArray) (sc : List Int) (R : Except (Nat × Int) Uri) (v8 v9 v10 : Value) (wx : World) : Prop :=
  ∃ (stb : ByteArray) (st us ho : List Int) (po : Int), v10 = .string stb ∧ Hid (STP stb st) ∧ ∃ g, g ≤ s.size + 1 ∧ Lp1 wb cb ub s st sc us ho po R g v8 v9 wx
end Go.Proofs.YthfonniieaiocaaGreatDoor
