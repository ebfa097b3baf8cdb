/- Contracts: the reference's plain, named. Contracts: the reference's lowered, telephoned. Contract: the reference's telephoned. Contract: the reference's write. Contract: the reference's Normal. Contracts: the reference's Print, Equal. -/
import Derived.Test.YthfonniieaiocaaGreatDoorXf
import Derived.Test.YthfonniieaiocaaGreatDoorUq
import Derived.Test.YthfonniieaiocaaGreatDoorWt
import Derived.Test.YthfonniieaiocaaGreatDoorXp
import Derived.Test.YthfonniieaiocaaGreatDoorWp
import Derived.Test.YthfonniieaiocaaGreatDoorXv
import Derived.Test.YthfonniieaiocaaGreatDoorXq
import Derived.Test.YthfonniieaiocaaGreatDoorWe
import Derived.Test.YthfonniieaiocaaGreatDoorWh
set_option linter.unusedVariables false
set_option linter.unusedSimpArgs false
namespace Go.Proofs.YthfonniieaiocaaGreatDoor
open Go.RowKit

def lowPm (p : Pm) : Pm := ⟨lowS p.n, p.v, p.h⟩
theorem room_low (l : List Pm) (j : Nat) (n : List Int) (h : j ≤ l.length) : roomF (l.take j) n = if holdsL ((l.take j).map lowPm) (lowS n) = true then 7 else if 16 ≤ j then 4 else 0 := by
  unfold roomF holdsL
  rw [List.any_map, List.length_take, Nat.min_eq_left h]
  rfl
theorem clean_lowS (x : List Int) : clean (lowS x) = clean x := by
  unfold clean lowS
  rw [List.all_map]
  congr 1
  funext c
  simp only [Function.comp]
  rw [ctl_low]
def badP (l : List Pm) (k : Int) (j : Nat) (p : Pm) : Prop := p.n = [] ∨ clean p.n = false ∨ clean p.v = false ∨ ((k = 2 ∧ p.h = false) ∨ (k = 1 ∧ p.h ≠ !p.v.isEmpty)) ∨ roomF (l.take j) p.n ≠ 0
structure NmS (l : List Pm) (k : Int) (j : Nat) (R : Bool) : Prop where
  le : j ≤ 16
  s : l.length ≤ 16 → R = (fldsN k (l.drop j) ((l.take j).map lowPm)).isSome
  b : 16 < l.length → R = false
theorem NmS.start (l : List Pm) (k : Int) : NmS l k 0 (fldsL l k).isSome := by
  refine ⟨Nat.zero_le _, fun h => ?_, fun h => ?_⟩
  · unfold fldsL; rw [if_neg (by omega), List.drop_zero, List.take_zero]
    show (Option.map sortPm (fldsN k l [])).isSome = (fldsN k l []).isSome
    cases fldsN k l [] <;> rfl
  · unfold fldsL; rw [if_pos h]; rfl
theorem NmS.bad {l : List Pm} {k : Int} {j : Nat} {R : Bool} {p : Pm} (h : NmS l k j R) (hp : l[j]? = some p) (hb : badP l k j p) : R = false := by
  have hj : j < l.length := (List.getElem?_eq_some_iff.1 hp).1
  by_cases hl : 16 < l.length
  · exact h.b hl
  · rw [h.s (by omega), dropPm hp, fldsN_cons]
    rcases hb with h0 | h0 | h0 | h0 | h0
    · rw [if_pos (.inl (by rw [h0]; rfl))]; rfl
    · rw [if_pos (.inr (.inl (by rw [clean_lowS]; exact h0)))]; rfl
    · rw [if_pos (.inr (.inr (.inl h0)))]; rfl
    · split
      · rfl
      · first | rfl | (rw [if_pos h0]; rfl)
    · rw [if_pos]
      · rfl
      · right; right; right
        rw [room_low l j p.n (by omega)] at h0
        by_cases h1 : holdsL ((l.take j).map lowPm) (lowS p.n) = true
        · exact h1
        · rw [if_neg h1, if_neg (by omega)] at h0
          exact absurd rfl h0
theorem NmS.next {l : List Pm} {k : Int} {j : Nat} {R : Bool} {p : Pm} (h : NmS l k j R) (hp : l[j]? = some p) (hb : ¬ badP l k j p) : NmS l k (j + 1) R := by
  have hj : j < l.length := (List.getElem?_eq_some_iff.1 hp).1
  unfold badP at hb
  simp only [not_or] at hb
  obtain ⟨b1, b2, b3, b4, b5⟩ := hb
  rw [Decidable.not_not, room_low l j p.n (by omega)] at b5
  have h1 : ¬ holdsL ((l.take j).map lowPm) (lowS p.n) = true := fun h1 => by rw [if_pos h1] at b5; cases b5
  rw [if_neg h1] at b5
  have h16 : ¬ 16 ≤ j := fun h2 => by rw [if_pos h2] at b5; cases b5
  refine ⟨by omega, fun hl => ?_, h.b⟩
  rw [h.s hl, dropPm hp, fldsN_cons, if_neg, if_neg (fun h => h.elim b4.1 b4.2)]
  · have ht : l.take (j + 1) = l.take j ++ [p] := by rw [List.take_add_one, hp]; rfl
    rw [ht, List.map_append]; rfl
  · rintro (h0 | h0 | h0 | h0)
    · exact b1 (lowS_ne.1 h0)
    · exact b2 (by rw [← clean_lowS]; exact h0)
    · exact b3 h0
    · exact h1 h0
theorem NmS.end {l : List Pm} {k : Int} {R : Bool} (h : NmS l k l.length R) : R = true := by
  rw [h.s h.le, List.drop_length]; rfl
end Go.Proofs.YthfonniieaiocaaGreatDoor
namespace Go.Proofs.YthfonniieaiocaaGreatDoor
open Go.RowKit

end Go.Proofs.YthfonniieaiocaaGreatDoor
namespace Go.Proofs.YthfonniieaiocaaGreatDoor
open Go.RowKit

end Go.Proofs.YthfonniieaiocaaGreatDoor
namespace Go.Proofs.YthfonniieaiocaaGreatDoor
open Go.RowKit

def wrT (k : Int) (m1 m2 : List Int) : List Pm → List Int
  | [] => []
  | p :: r => m1 ++ escT k p.n ++ (if p.h = true then [61] ++ escT k p.v else []) ++ wrT k m2 m2 r
theorem wrT_ps (l : List Pm) : wrT 1 [59] [59] l = l.flatMap pmT := by
  induction l with
  | nil => rfl
  | cons p r ih => rw [wrT, ih, List.flatMap_cons]; rfl
theorem wrT_hs (m : List Int) : ∀ (l : List Pm) (b : Bool), (∀ p ∈ l, p.h = true) → (if b = true then [63] else [38]) = m → wrT 2 m [38] l = hdsT l b
  | [], b, _, _ => rfl
  | p :: r, b, h, hm => by
    rw [wrT, wrT_hs [38] r false (fun q hq => h q (List.mem_cons_of_mem _ hq)) rfl, if_pos (h p (List.mem_cons_self ..))]
    show _ = (if b = true then [63] else [38]) ++ hdT p ++ hdsT r false
    unfold hdT
    rw [hm]
    simp
theorem esc3 (k : Int) (s : List Int) : (escT k s).length ≤ 3 * s.length := by
  unfold escT
  induction s with
  | nil => simp
  | cons c r ih =>
    rw [List.flatMap_cons, List.length_append, List.length_cons]
    have : (escC2 k c).length ≤ 3 := by unfold escC2; split <;> simp
    omega
end Go.Proofs.YthfonniieaiocaaGreatDoor
namespace Go.Proofs.YthfonniieaiocaaGreatDoor
open Go.RowKit

structure NP (w : World) (ub rb : Nat) (us : List Value) (vs : List (Value × List Pm)) (wx : World) : Prop where
  m : Mine w wx [(ub, 32, us), (rb, 32, uZ)] []
  v : ∀ x ∈ vs, VX 56 3 w x.1 x.2.length (pms x.2) wx
section
variable {w wx w2 : World} {ub rb : Nat} {us : List Value} {vs : List (Value × List Pm)}
theorem NP.ur (h : NP w ub rb us vs wx) : Row wx ub 32 us := h.m.row (i := 0) rfl
theorem NP.call (h : NP w ub rb us vs wx) (hb : Below wx.heap.size wx w2) : NP w ub rb us vs w2 := ⟨h.m.call hb, fun x hx => (h.v x hx).step hb⟩
theorem NP.set (h : NP w ub rb us vs wx) (n : Nat) (u : Value) : NP w ub rb (us.set n u) vs (wx.setCell ⟨ub, n, none⟩ u) :=
  ⟨h.m.setCell (i := 0) (off := n) u rfl rfl, fun x hx => (h.v x hx).other (h.m.bw.setCell (h.m.ge (i := 0) rfl) u) fun g hg => Below.heap_setCell wx ⟨ub, n, none⟩ u g (rowT_nv h.ur (h.v x hx) (by decide) g hg)⟩
theorem NP.more (h : NP w ub rb us vs wx) {v : Value} {l : List Pm} {n : Nat} (hn : l.length = n) (hv : VX 56 3 wx v n (pms l) w2) : NP w ub rb us ((v, l) :: vs) w2 := by
  subst hn
  have h2 := h.call hv.bw
  refine ⟨h2.m, fun x hx => ?_⟩
  rcases List.mem_cons.1 hx with rfl | hx
  · exact hv.base h.m.bw
  · exact h2.v x hx
end
end Go.Proofs.YthfonniieaiocaaGreatDoor
namespace Go.Proofs.YthfonniieaiocaaGreatDoor
open Go.RowKit

structure RArg (w : World) (u : Uri) (A1 A2 : Option Addr) (c1 c2 : Nat) : Prop where
  a : UArg w u A1 A2
  k1 : u.ps.length ≤ c1
  k2 : u.hs.length ≤ c2
  po : -9223372036854775808 ≤ u.po ∧ u.po < 9223372036854775808
  q1 : u.ps.length ≤ 1000000
  q2 : u.hs.length ≤ 1000000
theorem RArg.step {w w' : World} {u : Uri} {A1 A2 : Option Addr} {c1 c2 : Nat} (h : RArg w u A1 A2 c1 c2) (hb : Below w.heap.size w w') : RArg w' u A1 A2 c1 c2 := { h with a := h.a.step hb }
theorem print_tel {n : Uri} (h : UriN n) (ht : n.sc = TELT) : [116, 101, 108, 58] ++ n.us ++ wrT 1 [59] [59] n.ps = printN n := by
  rcases h.k with ⟨hs, _⟩ | ⟨_, k2, k3, k4, _⟩
  · rw [ht] at hs; exact absurd hs (by decide)
  · unfold printN
    rw [ht, if_pos rfl, k2, k3, if_pos rfl, k4, wrT_ps]
    simp [TELT, hdsT]
theorem print_sip {n : Uri} (h : UriN n) (ht : n.sc ≠ TELT) : (n.sc ++ [58] ++ (if n.us = [] then [] else escT 0 n.us ++ [64]) ++ n.ho ++ (if n.po = 0 then [] else [58] ++ decL n.po)) ++ wrT 1 [59] [59] n.ps ++ wrT 2 [63] [38] n.hs = printN n := by
  unfold printN
  rw [if_neg ht, wrT_ps, wrT_hs [63] n.hs true (fun p hp => by
    have := (h.hs.f p hp).h
    cases hh : p.h with
    | true => rfl
    | false => exact absurd (.inl ⟨rfl, hh⟩) this) rfl]
theorem wrT_len (k : Int) (m2 : List Int) (hm2 : m2.length ≤ 10) : ∀ (l : List Pm) (m1 : List Int), m1.length ≤ 10 → (∀ p ∈ l, pmSz p) → (wrT k m1 m2 l).length ≤ l.length * 25000000
  | [], _, _, _ => by simp [wrT]
  | p :: r, m1, h1, h => by
    have ih := wrT_len k m2 hm2 r m2 hm2 (fun q hq => h q (List.mem_cons_of_mem _ hq))
    have hp := h p (List.mem_cons_self ..)
    have e1 := esc3 k p.n
    have e2 := esc3 k p.v
    have n1 := hp.2.2.1
    have n2 := hp.2.2.2
    unfold wrT
    rw [List.length_append, List.length_append, List.length_append, List.length_cons]
    split
    · rw [List.length_append, List.length_singleton]; omega
    · rw [List.length_nil]; omega
end Go.Proofs.YthfonniieaiocaaGreatDoor
