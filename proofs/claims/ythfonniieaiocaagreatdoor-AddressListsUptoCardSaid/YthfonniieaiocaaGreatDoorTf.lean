/- Contracts: the reference's plain, named. Contracts: the reference's lowered, telephoned. Contract: the reference's telephoned. Contract: the reference's write. Contract: the reference's Normal. Contracts: the reference's Print, Equal. -/
import Derived.Test.YthfonniieaiocaaGreatDoorXf
import Derived.Test.YthfonniieaiocaaGreatDoorUq
import Derived.Test.YthfonniieaiocaaGreatDoorWt
import Derived.Test.YthfonniieaiocaaGreatDoorXp
import Derived.Test.YthfonniieaiocaaGreatDoorWl
import Derived.Test.YthfonniieaiocaaGreatDoorXv
import Derived.Test.YthfonniieaiocaaGreatDoorXq
import Derived.Test.YthfonniieaiocaaGreatDoorWp
import Derived.Test.YthfonniieaiocaaGreatDoorWe
import Derived.Test.YthfonniieaiocaaGreatDoorWh
set_option linter.unusedVariables false
set_option linter.unusedSimpArgs false
namespace Go.Proofs.YthfonniieaiocaaGreatDoor
open Go.RowKit

set_option maxRecDepth 100000 in
theorem rplain_any (s : ByteArray) (w : World) (hs : s.size ≤ 4000000) : Calls Tryz.prog 101 #[.string s] w fun e w' => e = .returned (.bool (clean (byteL s))) ∧ w = w' := by
  have HL := kd (byteL_len s)
  have HB := kd (byteL_by s)
  have BAD := kd (fun (j : Nat) (h : j < s.size) (hx : isCtl ((byteL s).getD j 0) = true) => clean_no (xs := byteL s) (k := j) (by rw [HL.out]; exact h) hx)
  have CE := kd (show clean (byteL s) = (byteL s).all fun c => !isCtl c from rfl)
  generalize clean (byteL s) = R at *
  obtain ⟨X, hX⟩ : ∃ X, byteL s = X := ⟨_, rfl⟩
  have HX := kd hX
  rw [hX] at HL HB BAD CE
  clear hX
  go_enter Tryz.func101, Tryz.ntmps101
  go_wp2_with fail
  go_loopw [3] (fun v wr => ∃ j : Nat, j ≤ s.size ∧ v = .int .i64 j ∧ w = wr ∧ Hid (((X.take j).all fun c => !isCtl c) = true)) (fun v _ => s.size - (intOf v).toNat)
  case atStart => exact ⟨0, Nat.zero_le _, rfl, rfl, kd rfl⟩
  case round =>
    obtain ⟨j, hj, rfl, rfl, HA⟩ := hrel
    by_cases hlt : j < s.size
    · have hd : decide ((j : Int) < (s.size : Int)) = true := by simp; omega
      have d1 := fun w => idx_str s (i := j) hlt (z := (j : Int)) rfl w
      rw [HX.out] at d1
      have hx := HB.out _ (getD_mem (l := X) (i := j) (by rw [HL.out]; exact hlt))
      have CT := kd (fun w => refcontrol_any (X.getD j 0) w hx.1 hx.2)
      cases hc : isCtl (X.getD j 0) with
      | true =>
        rw [hc] at CT
        have E := kd (BAD.out j hlt hc)
        clear BAD hc hx CE
        generalize X.getD j 0 = x at *
        go_wp2_with (go_at_call 154; refine (CT.out _).mono ?_; rintro _ w' ⟨rfl, rfl⟩)
        go_ret
        exact ⟨by rw [E.out]; rfl, rfl⟩
      | false =>
        rw [hc] at CT
        have HA2 := kd (show ((X.take (j + 1)).all fun c => !isCtl c) = true by rw [all_take_succ (by rw [HL.out]; exact hlt), HA.out, hc]; rfl)
        clear BAD hc hx HA CE
        generalize X.getD j 0 = x at *
        go_wp2_with (go_at_call 154; refine (CT.out _).mono ?_; rintro _ w' ⟨rfl, rfl⟩)
        go_roundw
        case rel => exact ⟨j + 1, by omega, by go_num, by first | rfl | trivial, HA2⟩
        case measure => simp [intOf]; omega
    · obtain rfl : j = s.size := by omega
      have hd : decide ((s.size : Int) < (s.size : Int)) = false := by simp
      have E := kd (show R = true by rw [CE.out, ← HA.out, List.take_of_length_le (by rw [HL.out]; exact Nat.le_refl _)])
      clear BAD HA CE
      go_wp2_with fail
      go_ret
      exact ⟨by rw [E.out]; rfl, rfl⟩
def lowPm (p : Pm) : Pm := ⟨lowS p.n, p.v, p.h⟩
theorem room_low (l : List Pm) (j : Nat) (n : List Int) (h : j ≤ l.length) : roomF (l.take j) n = if holdsL ((l.take j).map lowPm) (lowS n) = true then 7 else if 16 ≤ j then 4 else 0 := by
  unfold roomF holdsL
  rw [List.any_map, List.length_take, Nat.min_eq_left h]
  rfl
theorem clean_lowS (x : List Int) : clean (lowS x) = clean x := by
  unfold clean lowS
  rw [List.all_map]
  congr 1
  funext c
  simp only [Function.comp]
  rw [ctl_low]
def badP (l : List Pm) (k : Int) (j : Nat) (p : Pm) : Prop := p.n = [] ∨ clean p.n = false ∨ clean p.v = false ∨ ((k = 2 ∧ p.h = false) ∨ (k = 1 ∧ p.h ≠ !p.v.isEmpty)) ∨ roomF (l.take j) p.n ≠ 0
structure NmS (l : List Pm) (k : Int) (j : Nat) (R : Bool) : Prop where
  le : j ≤ 16
  s : l.length ≤ 16 → R = (fldsN k (l.drop j) ((l.take j).map lowPm)).isSome
  b : 16 < l.length → R = false
theorem NmS.start (l : List Pm) (k : Int) : NmS l k 0 (fldsL l k).isSome := by
  refine ⟨Nat.zero_le _, fun h => ?_, fun h => ?_⟩
  · unfold fldsL; rw [if_neg (by omega), List.drop_zero, List.take_zero]
    show (Option.map sortPm (fldsN k l [])).isSome = (fldsN k l []).isSome
    cases fldsN k l [] <;> rfl
  · unfold fldsL; rw [if_pos h]; rfl
theorem NmS.bad {l : List Pm} {k : Int} {j : Nat} {R : Bool} {p : Pm} (h : NmS l k j R) (hp : l[j]? = some p) (hb : badP l k j p) : R = false := by
  have hj : j < l.length := (List.getElem?_eq_some_iff.1 hp).1
  by_cases hl : 16 < l.length
  · exact h.b hl
  · rw [h.s (by omega), dropPm hp, fldsN_cons]
    rcases hb with h0 | h0 | h0 | h0 | h0
    · rw [if_pos (.inl (by rw [h0]; rfl))]; rfl
    · rw [if_pos (.inr (.inl (by rw [clean_lowS]; exact h0)))]; rfl
    · rw [if_pos (.inr (.inr (.inl h0)))]; rfl
    · split
      · rfl
      · first | rfl | (rw [if_pos h0]; rfl)
    · rw [if_pos]
      · rfl
      · right; right; right
        rw [room_low l j p.n (by omega)] at h0
        by_cases h1 : holdsL ((l.take j).map lowPm) (lowS p.n) = true
        · exact h1
        · rw [if_neg h1, if_neg (by omega)] at h0
          exact absurd rfl h0
theorem NmS.next {l : List Pm} {k : Int} {j : Nat} {R : Bool} {p : Pm} (h : NmS l k j R) (hp : l[j]? = some p) (hb : ¬ badP l k j p) : NmS l k (j + 1) R := by
  have hj : j < l.length := (List.getElem?_eq_some_iff.1 hp).1
  unfold badP at hb
  simp only [not_or] at hb
  obtain ⟨b1, b2, b3, b4, b5⟩ := hb
  rw [Decidable.not_not, room_low l j p.n (by omega)] at b5
  have h1 : ¬ holdsL ((l.take j).map lowPm) (lowS p.n) = true := fun h1 => by rw [if_pos h1] at b5; cases b5
  rw [if_neg h1] at b5
  have h16 : ¬ 16 ≤ j := fun h2 => by rw [if_pos h2] at b5; cases b5
  refine ⟨by omega, fun hl => ?_, h.b⟩
  rw [h.s hl, dropPm hp, fldsN_cons, if_neg, if_neg (fun h => h.elim b4.1 b4.2)]
  · have ht : l.take (j + 1) = l.take j ++ [p] := by rw [List.take_add_one, hp]; rfl
    rw [ht, List.map_append]; rfl
  · rintro (h0 | h0 | h0 | h0)
    · exact b1 (lowS_ne.1 h0)
    · exact b2 (by rw [← clean_lowS]; exact h0)
    · exact b3 h0
    · exact h1 h0
theorem NmS.end {l : List Pm} {k : Int} {R : Bool} (h : NmS l k l.length R) : R = true := by
  rw [h.s h.le, List.drop_length]; rfl
end Go.Proofs.YthfonniieaiocaaGreatDoor
namespace Go.Proofs.YthfonniieaiocaaGreatDoor
open Go.RowKit

end Go.Proofs.YthfonniieaiocaaGreatDoor
namespace Go.Proofs.YthfonniieaiocaaGreatDoor
open Go.RowKit

end Go.Proofs.YthfonniieaiocaaGreatDoor
namespace Go.Proofs.YthfonniieaiocaaGreatDoor
open Go.RowKit

end Go.Proofs.YthfonniieaiocaaGreatDoor
namespace Go.Proofs.YthfonniieaiocaaGreatDoor
open Go.RowKit

structure NP (w : World) (ub rb : Nat) (us : List Value) (vs : List (Value × List Pm)) (wx : World) : Prop where
  m : Mine w wx [(ub, 32, us), (rb, 32, uZ)] []
  v : ∀ x ∈ vs, VX 56 3 w x.1 x.2.length (pms x.2) wx
section
variable {w wx w2 : World} {ub rb : Nat} {us : List Value} {vs : List (Value × List Pm)}
theorem NP.ur (h : NP w ub rb us vs wx) : Row wx ub 32 us := h.m.row (i := 0) rfl
theorem NP.call (h : NP w ub rb us vs wx) (hb : Below wx.heap.size wx w2) : NP w ub rb us vs w2 := ⟨h.m.call hb, fun x hx => (h.v x hx).step hb⟩
theorem NP.set (h : NP w ub rb us vs wx) (n : Nat) (u : Value) : NP w ub rb (us.set n u) vs (wx.setCell ⟨ub, n, none⟩ u) :=
  ⟨h.m.setCell (i := 0) (off := n) u rfl rfl, fun x hx => (h.v x hx).other (h.m.bw.setCell (h.m.ge (i := 0) rfl) u) fun g hg => Below.heap_setCell wx ⟨ub, n, none⟩ u g (rowT_nv h.ur (h.v x hx) (by decide) g hg)⟩
theorem NP.more (h : NP w ub rb us vs wx) {v : Value} {l : List Pm} {n : Nat} (hn : l.length = n) (hv : VX 56 3 wx v n (pms l) w2) : NP w ub rb us ((v, l) :: vs) w2 := by
  subst hn
  have h2 := h.call hv.bw
  refine ⟨h2.m, fun x hx => ?_⟩
  rcases List.mem_cons.1 hx with rfl | hx
  · exact hv.base h.m.bw
  · exact h2.v x hx
end
end Go.Proofs.YthfonniieaiocaaGreatDoor
namespace Go.Proofs.YthfonniieaiocaaGreatDoor
open Go.RowKit

structure RArg (w : World) (u : Uri) (A1 A2 : Option Addr) (c1 c2 : Nat) : Prop where
  a : UArg w u A1 A2
  k1 : u.ps.length ≤ c1
  k2 : u.hs.length ≤ c2
  po : -9223372036854775808 ≤ u.po ∧ u.po < 9223372036854775808
  q1 : u.ps.length ≤ 1000000
  q2 : u.hs.length ≤ 1000000
theorem RArg.step {w w' : World} {u : Uri} {A1 A2 : Option Addr} {c1 c2 : Nat} (h : RArg w u A1 A2 c1 c2) (hb : Below w.heap.size w w') : RArg w' u A1 A2 c1 c2 := { h with a := h.a.step hb }
end Go.Proofs.YthfonniieaiocaaGreatDoor
