/- Contracts: the reference's plain, named. And what stands behind it. -/
import Derived.Test.YthfonniieaiocaaGreatDoorXf
import Derived.Test.YthfonniieaiocaaGreatDoorUq
import Derived.Test.YthfonniieaiocaaGreatDoorWt
import Derived.Test.YthfonniieaiocaaGreatDoorXp
import Derived.Test.YthfonniieaiocaaGreatDoorWp
import Derived.Test.YthfonniieaiocaaGreatDoorXv
import Derived.Test.YthfonniieaiocaaGreatDoorXq
import Derived.Test.YthfonniieaiocaaGreatDoorWe
import Derived.Test.YthfonniieaiocaaGreatDoorWh
set_option linter.unusedVariables false
set_option linter.unusedSimpArgs false
set_option maxRecDepth 100000
set_option maxHeartbeats 8000000
namespace Go.Proofs.YthfonniieaiocaaGreatDoor
open Go.RowKit

theorem rplain_any (s : ByteArray) (w : World) (hs : s.size ≤ 4000000) : Calls Tryz.prog 101 #[.string s] w fun e w' => e = .returned (.bool (clean (byteL s))) ∧ w = w' := by
  have HL := kd (byteL_len s)
  have HB := kd (byteL_by s)
  have BAD := kd (fun (j : Nat) (h : j < s.size) (hx : isCtl ((byteL s).getD j 0) = true) => clean_no (xs := byteL s) (k := j) (by rw [HL.out]; exact h) hx)
  have CE := kd (show clean (byteL s) = (byteL s).all fun c => !isCtl c from rfl)
  generalize clean (byteL s) = R at *
  obtain ⟨X, hX⟩ : ∃ X, byteL s = X := ⟨_, rfl⟩
  have HX := kd hX
  rw [hX] at HL HB BAD CE
  clear hX
  go_enter Tryz.func101, Tryz.ntmps101
  go_wp2_with fail
  go_loopw [3] (fun v wr => ∃ j : Nat, j ≤ s.size ∧ v = .int .i64 j ∧ w = wr ∧ Hid (((X.take j).all fun c => !isCtl c) = true)) (fun v _ => s.size - (intOf v).toNat)
  case atStart => exact ⟨0, Nat.zero_le _, rfl, rfl, kd rfl⟩
  case round =>
    obtain ⟨j, hj, rfl, rfl, HA⟩ := hrel
    by_cases hlt : j < s.size
    · have hd : decide ((j : Int) < (s.size : Int)) = true := by simp; omega
      have d1 := fun w => idx_str s (i := j) hlt (z := (j : Int)) rfl w
      rw [HX.out] at d1
      have hx := HB.out _ (getD_mem (l := X) (i := j) (by rw [HL.out]; exact hlt))
      have CT := kd (fun w => refcontrol_any (X.getD j 0) w hx.1 hx.2)
      cases hc : isCtl (X.getD j 0) with
      | true =>
        rw [hc] at CT
        have E := kd (BAD.out j hlt hc)
        clear BAD hc hx CE
        generalize X.getD j 0 = x at *
        go_wp2_with (go_at_call 154; refine (CT.out _).mono ?_; rintro _ w' ⟨rfl, rfl⟩)
        go_ret
        exact ⟨by rw [E.out]; rfl, rfl⟩
      | false =>
        rw [hc] at CT
        have HA2 := kd (show ((X.take (j + 1)).all fun c => !isCtl c) = true by rw [all_take_succ (by rw [HL.out]; exact hlt), HA.out, hc]; rfl)
        clear BAD hc hx HA CE
        generalize X.getD j 0 = x at *
        go_wp2_with (go_at_call 154; refine (CT.out _).mono ?_; rintro _ w' ⟨rfl, rfl⟩)
        go_roundw
        case rel => exact ⟨j + 1, by omega, by go_num, by first | rfl | trivial, HA2⟩
        case measure => simp [intOf]; omega
    · obtain rfl : j = s.size := by omega
      have hd : decide ((s.size : Int) < (s.size : Int)) = false := by simp
      have E := kd (show R = true by rw [CE.out, ← HA.out, List.take_of_length_le (by rw [HL.out]; exact Nat.le_refl _)])
      clear BAD HA CE
      go_wp2_with fail
      go_ret
      exact ⟨by rw [E.out]; rfl, rfl⟩
def lowPm (p : Pm) : Pm := ⟨lowS p.n, p.v, p.h⟩
theorem room_low (l : List Pm) (j : Nat) (n : List Int) (h : j ≤ l.length) : roomF (l.take j) n = if holdsL ((l.take j).map lowPm) (lowS n) = true then 7 else if 16 ≤ j then 4 else 0 := by
  unfold roomF holdsL
  rw [List.any_map, List.length_take, Nat.min_eq_left h]
  rfl
theorem clean_lowS (x : List Int) : clean (lowS x) = clean x := by
  unfold clean lowS
  rw [List.all_map]
  congr 1
  funext c
  simp only [Function.comp]
  rw [ctl_low]
def badP (l : List Pm) (k : Int) (j : Nat) (p : Pm) : Prop := p.n = [] ∨ clean p.n = false ∨ clean p.v = false ∨ ((k = 2 ∧ p.h = false) ∨ (k = 1 ∧ p.h ≠ !p.v.isEmpty)) ∨ roomF (l.take j) p.n ≠ 0
structure NmS (l : List Pm) (k : Int) (j : Nat) (R : Bool) : Prop where
  le : j ≤ 16
  s : l.length ≤ 16 → R = (fldsN k (l.drop j) ((l.take j).map lowPm)).isSome
  b : 16 < l.length → R = false
theorem NmS.start (l : List Pm) (k : Int) : NmS l k 0 (fldsL l k).isSome := by
  refine ⟨Nat.zero_le _, fun h => ?_, fun h => ?_⟩
  · unfold fldsL; rw [if_neg (by omega), List.drop_zero, List.take_zero]
    show (Option.map sortPm (fldsN k l [])).isSome = (fldsN k l []).isSome
    cases fldsN k l [] <;> rfl
  · unfold fldsL; rw [if_pos h]; rfl
theorem NmS.bad {l : List Pm} {k : Int} {j : Nat} {R : Bool} {p : Pm} (h : NmS l k j R) (hp : l[j]? = some p) (hb : badP l k j p) : R = false := by
  have hj : j < l.length := (List.getElem?_eq_some_iff.1 hp).1
  by_cases hl : 16 < l.length
  · exact h.b hl
  · rw [h.s (by omega), dropPm hp, fldsN_cons]
    rcases hb with h0 | h0 | h0 | h0 | h0
    · rw [if_pos (.inl (by rw [h0]; rfl))]; rfl
    · rw [if_pos (.inr (.inl (by rw [clean_lowS]; exact h0)))]; rfl
    · rw [if_pos (.inr (.inr (.inl h0)))]; rfl
    · split
      · rfl
      · first | rfl | (rw [if_pos h0]; rfl)
    · rw [if_pos]
      · rfl
      · right; right; right
        rw [room_low l j p.n (by omega)] at h0
        by_cases h1 : holdsL ((l.take j).map lowPm) (lowS p.n) = true
        · exact h1
        · rw [if_neg h1, if_neg (by omega)] at h0
          exact absurd rfl h0
theorem NmS.next {l : List Pm} {k : Int} {j : Nat} {R : Bool} {p : Pm} (h : NmS l k j R) (hp : l[j]? = some p) (hb : ¬ badP l k j p) : NmS l k (j + 1) R := by
  have hj : j < l.length := (List.getElem?_eq_some_iff.1 hp).1
  unfold badP at hb
  simp only [not_or] at hb
  obtain ⟨b1, b2, b3, b4, b5⟩ := hb
  rw [Decidable.not_not, room_low l j p.n (by omega)] at b5
  have h1 : ¬ holdsL ((l.take j).map lowPm) (lowS p.n) = true := fun h1 => by rw [if_pos h1] at b5; cases b5
  rw [if_neg h1] at b5
  have h16 : ¬ 16 ≤ j := fun h2 => by rw [if_pos h2] at b5; cases b5
  refine ⟨by omega, fun hl => ?_, h.b⟩
  rw [h.s hl, dropPm hp, fldsN_cons, if_neg, if_neg (fun h => h.elim b4.1 b4.2)]
  · have ht : l.take (j + 1) = l.take j ++ [p] := by rw [List.take_add_one, hp]; rfl
    rw [ht, List.map_append]; rfl
  · rintro (h0 | h0 | h0 | h0)
    · exact b1 (lowS_ne.1 h0)
    · exact b2 (by rw [← clean_lowS]; exact h0)
    · exact b3 h0
    · exact h1 h0
theorem NmS.end {l : List Pm} {k : Int} {R : Bool} (h : NmS l k l.length R) : R = true := by
  rw [h.s h.le, List.drop_length]; rfl
theorem rnamed_any (A : Option Addr) (n c : Nat) (l : List Pm) (k : Int) (w : World) (hA : Rds w w.heap.size A (pms l)) (hn : l.length = n) (hN : n ≤ 16000000) (hc : n ≤ c) (hl : ∀ p ∈ l, pmSz p) (hk : k = 1 ∨ k = 2) :
    Calls Tryz.prog 100 #[.slice A n c, .int .i64 k] w fun e w' => e = .returned (.bool (fldsL l k).isSome) ∧ Below w.heap.size w w' := by
  have HA := kd hA; have HN := kd hn; have HL := kd hl
  have NS0 := kd (NmS.start l k)
  generalize (fldsL l k).isSome = R at *
  clear hA hn hl
  go_enter Tryz.func100, Tryz.ntmps100
  go_wp2_with fail
  go_loopw [5] (fun v wr => ∃ j : Nat, j ≤ n ∧ v = .int .i64 j ∧ Hid (NmS l k j R) ∧ Hid (Below w.heap.size w wr)) (fun v _ => n - (intOf v).toNat)
  case atStart => exact ⟨0, Nat.zero_le _, rfl, NS0, kd (Below.refl _ _)⟩
  case round =>
    clear NS0
    obtain ⟨j, hj, rfl, NS, HV⟩ := hrel
    by_cases hlt : j < n
    · have hd2 : decide ((j : Int) < (n : Int)) = true := by simp; omega
      obtain ⟨p, hp⟩ : ∃ p, l[j]? = some p := ⟨_, List.getElem?_eq_getElem (by rw [HN.out]; exact hlt)⟩
      obtain ⟨x1, o1, hA1, hx1, hc1⟩ := HA.out (by rw [pms_len, HN.out]; omega)
      have G1 := kd (show wr.rangeAt x1 (o1 + j * 3) (pmC p) from fun i v hv => (HV.out.cell (p := ⟨x1, _, none⟩) hx1).trans (Rds.range2 hc1 (j * 3) _ (pms_at hp) i v hv))
      obtain ⟨pnb, pvb, pnl, pvl⟩ := HL.out p (List.mem_of_getElem? hp)
      have HP := kd hp
      clear hc1 hp hx1
      obtain ⟨pn, pv, ph⟩ := p
      dsimp only at pnb pvb pnl pvl
      have G2 := kd (show wr.rangeAt x1 (o1 + j * 3) [.string (strOfNums pn), .string (strOfNums pv), .bool ph] from G1.out)
      have R0 := kd (Row.new wr 56 [.string (strOfNums pn), .string (strOfNums pv), .bool ph])
      have B2 := kd (HV.out.alloc HV.out.size (.cells #[.string (strOfNums pn), .string (strOfNums pv), .bool ph] 56))
      subst hA1
      clear G1 HV
      go_upto_region 5 with (with_reducible refine wpList_load_mid rfl 56 (.tmp 15) rfl x1 (o1 + j * 3) rfl [.string (strOfNums pn), .string (strOfNums pv), .bool ph] _ G2.out Tryz.underlying56 rfl (sizePm _ _ _) ?_)
      clear G2
      generalize wr.alloc (.cells #[.string (strOfNums pn), .string (strOfNums pv), .bool ph] 56) = w2 at *
      generalize wr.heap.size = pb at *
      have q0 : ∀ x : BW w2, x.w.cell? ⟨pb, 0, none⟩ = some (.string (strOfNums pn)) := fun x => R0.out.later x 0
      have q1 : ∀ x : BW w2, x.w.cell? ⟨pb, 1, none⟩ = some (.string (strOfNums pv)) := fun x => R0.out.later x 1
      have q2 : ∀ x : BW w2, x.w.cell? ⟨pb, 2, none⟩ = some (.bool ph) := fun x => R0.out.later x 2
      have PN := kd (fun (x : BW w2) => (rplain_any (strOfNums pn) x.w (by rw [num_size]; exact pnl)).mono (R' := fun e w' => e = .returned (.bool (clean pn)) ∧ Below x.w.heap.size x.w w') fun e w' h => ⟨by rw [h.1, byteL_str pnb], h.2 ▸ Below.refl _ _⟩)
      have PV := kd (fun (x : BW w2) => (rplain_any (strOfNums pv) x.w (by rw [num_size]; exact pvl)).mono (R' := fun e w' => e = .returned (.bool (clean pv)) ∧ Below x.w.heap.size x.w w') fun e w' h => ⟨by rw [h.1, byteL_str pvb], h.2 ▸ Below.refl _ _⟩)
      have LT := kd (show (l.take j).length = j by rw [List.length_take, HN.out]; omega)
      have RO := kd (fun (x : BW w2) => rroom_any (some ⟨x1, o1, none⟩) j c (l.take j) pn x.w (rds_take ((HA.out.below (bthen B2.out x.h)).up (Nat.le_trans B2.out.size x.h.size)) j) LT.out (fun q hq => HL.out q (List.mem_of_mem_take hq)) (by omega) pnb pnl)
      have jc : (j : Int) ≤ (c : Int) := by omega
      have jn : (j : Int) ≤ (n : Int) := by omega
      clear pnb pvb pnl pvl R0 LT
      by_cases n0 : pn = []
      · have t2 : (strOfNums pn).toList = [] := num_nil.2 n0
        have t3 : ((strOfNums pn).toList == []) = true := by rw [t2]; rfl
        have N0 := kd n0
        clear n0
        have E := kd (NS.out.bad HP.out (.inl N0.out))
        clear NS
        refine region_bw (by kernel_rfl) (by kernel_rfl) ?_
        repeat go_big_quiet_step (fail)
        refine wpQuiet_nil ?_
        rintro _ ⟨y, rfl⟩
        have B5 := kd (bthen B2.out y.h)
        clear q0 q1 q2 PN PV RO B2
        generalize y.w = w5 at *
        go_wp2_with fail
        go_ret
        exact ⟨by rw [E.out]; rfl, B5.out⟩
      have t2 : ¬ (strOfNums pn).toList = [] := fun h => n0 (num_nil.1 h)
      have t3 : ((strOfNums pn).toList == []) = false := by simpa using t2
      cases cn : clean pn with
      | false =>
        rw [cn] at PN
        have E := kd (NS.out.bad HP.out (.inr (.inl cn)))
        clear NS
        refine region_bw (by kernel_rfl) (by kernel_rfl) ?_
        repeat go_big_quiet_step (fail)
        go_big_quiet_step (exact calls_bw (PN.out _))
        repeat go_big_quiet_step (fail)
        refine wpQuiet_nil ?_
        rintro _ ⟨y, rfl⟩
        have B5 := kd (bthen B2.out y.h)
        clear q0 q1 q2 PN PV RO B2
        generalize y.w = w5 at *
        go_wp2_with fail
        go_ret
        exact ⟨by rw [E.out]; rfl, B5.out⟩
      | true =>
      rw [cn] at PN
      cases cv : clean pv with
      | false =>
        rw [cv] at PV
        have E := kd (NS.out.bad HP.out (.inr (.inr (.inl cv))))
        clear NS
        refine region_bw (by kernel_rfl) (by kernel_rfl) ?_
        repeat go_big_quiet_step (fail)
        go_big_quiet_step (exact calls_bw (PN.out _))
        repeat go_big_quiet_step (fail)
        go_big_quiet_step (exact calls_bw (PV.out _))
        repeat go_big_quiet_step (fail)
        refine wpQuiet_nil ?_
        rintro _ ⟨y, rfl⟩
        have B5 := kd (bthen B2.out y.h)
        clear q0 q1 q2 PN PV RO B2
        generalize y.w = w5 at *
        go_wp2_with fail
        go_ret
        exact ⟨by rw [E.out]; rfl, B5.out⟩
      | true =>
      rw [cv] at PV
      cases ph with
      | false =>
        by_cases v0 : pv = []
        · have t5 : (strOfNums pv).toList = [] := num_nil.2 v0
          have t6 : ((strOfNums pv).toList == []) = true := by rw [t5]; rfl
          have t7 : ((strOfNums pv).toList != []) = false := by rw [t5]; rfl
          replace v0 := kd v0
          rcases hk with rfl | rfl
          · have k1 : ((1 : Int) == 2) = false := by decide
            cases hr : decide (roomF (l.take j) pn = 0) with
            | false =>
              have r0 : roomF (l.take j) pn ≠ 0 := by simpa using hr
              have r1 : (roomF (l.take j) pn == 0) = false := by simpa using r0
              have r2 : (roomF (l.take j) pn != 0) = true := by simpa using r0
              have HR0 := kd r0
              clear r0 hr
              have E := kd (NS.out.bad HP.out (.inr (.inr (.inr (.inr HR0.out)))))
              clear NS HR0
              generalize roomF (l.take j) pn = rm at *
              refine region_bw (by kernel_rfl) (by kernel_rfl) ?_
              repeat go_big_quiet_step (fail)
              go_big_quiet_step (exact calls_bw (PN.out _))
              repeat go_big_quiet_step (fail)
              go_big_quiet_step (exact calls_bw (PV.out _))
              repeat go_big_quiet_step (fail)
              go_big_quiet_step (exact calls_bw (RO.out _))
              repeat go_big_quiet_step (fail)
              refine wpQuiet_nil ?_
              rintro _ ⟨y, rfl⟩
              have B5 := kd (bthen B2.out y.h)
              clear q0 q1 q2 PN PV RO B2
              generalize y.w = w5 at *
              go_wp2_with fail
              go_ret
              exact ⟨by rw [E.out]; rfl, B5.out⟩
            | true =>
              have r0 : roomF (l.take j) pn = 0 := by simpa using hr
              have NX0 := kd (show ¬ badP l 1 j ⟨pn, pv, false⟩ from by
                unfold badP
                rintro (h | h | h | h | h)
                · exact n0 h
                · rw [cn] at h; cases h
                · rw [cv] at h; cases h
                · exact (show ¬ _ from fun h => h.elim (fun h => absurd h.1 (by decide)) (fun h => h.2 (by rw [v0.out]; rfl))) h
                · exact h r0)
              rw [r0] at RO
              clear r0 hr
              have NX := kd (NS.out.next HP.out (NX0.out))
              clear NS
              refine region_bw (by kernel_rfl) (by kernel_rfl) ?_
              repeat go_big_quiet_step (fail)
              go_big_quiet_step (exact calls_bw (PN.out _))
              repeat go_big_quiet_step (fail)
              go_big_quiet_step (exact calls_bw (PV.out _))
              repeat go_big_quiet_step (fail)
              go_big_quiet_step (exact calls_bw (RO.out _))
              repeat go_big_quiet_step (fail)
              refine wpQuiet_nil ?_
              rintro _ ⟨y, rfl⟩
              have B5 := kd (bthen B2.out y.h)
              clear q0 q1 q2 PN PV RO B2
              generalize y.w = w5 at *
              go_wp2_with fail
              go_roundw
              case rel => exact ⟨j + 1, by omega, by go_num, NX, B5⟩
              case measure => simp [intOf]; omega
          · have k1 : ((2 : Int) == 2) = true := by decide
            have E := kd (NS.out.bad HP.out (.inr (.inr (.inr (.inl (.inl ⟨rfl, rfl⟩))))))
            clear NS
            refine region_bw (by kernel_rfl) (by kernel_rfl) ?_
            repeat go_big_quiet_step (fail)
            go_big_quiet_step (exact calls_bw (PN.out _))
            repeat go_big_quiet_step (fail)
            go_big_quiet_step (exact calls_bw (PV.out _))
            repeat go_big_quiet_step (fail)
            refine wpQuiet_nil ?_
            rintro _ ⟨y, rfl⟩
            have B5 := kd (bthen B2.out y.h)
            clear q0 q1 q2 PN PV RO B2
            generalize y.w = w5 at *
            go_wp2_with fail
            go_ret
            exact ⟨by rw [E.out]; rfl, B5.out⟩
        · have t5 : ¬ (strOfNums pv).toList = [] := fun h => v0 (num_nil.1 h)
          have t6 : ((strOfNums pv).toList == []) = false := by simpa using t5
          have t7 : ((strOfNums pv).toList != []) = true := by simpa using t5
          have BP := kd (show badP l k j ⟨pn, pv, false⟩ from .inr (.inr (.inr (.inl (hk.symm.elim (fun h => .inl ⟨h, rfl⟩) (fun h => .inr ⟨h, fun e => v0 (by cases pv with | nil => rfl | cons a b => cases e)⟩))))))
          clear v0
          have E := kd (NS.out.bad HP.out (BP.out))
          clear NS
          refine region_bw (by kernel_rfl) (by kernel_rfl) ?_
          repeat go_big_quiet_step (fail)
          go_big_quiet_step (exact calls_bw (PN.out _))
          repeat go_big_quiet_step (fail)
          go_big_quiet_step (exact calls_bw (PV.out _))
          repeat go_big_quiet_step (fail)
          refine wpQuiet_nil ?_
          rintro _ ⟨y, rfl⟩
          have B5 := kd (bthen B2.out y.h)
          clear q0 q1 q2 PN PV RO B2
          generalize y.w = w5 at *
          go_wp2_with fail
          go_ret
          exact ⟨by rw [E.out]; rfl, B5.out⟩
      | true =>
        by_cases v0 : pv = []
        · have t5 : (strOfNums pv).toList = [] := num_nil.2 v0
          have t6 : ((strOfNums pv).toList == []) = true := by rw [t5]; rfl
          have t7 : ((strOfNums pv).toList != []) = false := by rw [t5]; rfl
          replace v0 := kd v0
          rcases hk with rfl | rfl
          · have k1 : ((1 : Int) == 1) = true := by decide
            have E := kd (NS.out.bad HP.out (.inr (.inr (.inr (.inl (.inr ⟨rfl, fun e => by rw [v0.out] at e; cases e⟩))))))
            clear NS
            refine region_bw (by kernel_rfl) (by kernel_rfl) ?_
            repeat go_big_quiet_step (fail)
            go_big_quiet_step (exact calls_bw (PN.out _))
            repeat go_big_quiet_step (fail)
            go_big_quiet_step (exact calls_bw (PV.out _))
            repeat go_big_quiet_step (fail)
            refine wpQuiet_nil ?_
            rintro _ ⟨y, rfl⟩
            have B5 := kd (bthen B2.out y.h)
            clear q0 q1 q2 PN PV RO B2
            generalize y.w = w5 at *
            go_wp2_with fail
            go_ret
            exact ⟨by rw [E.out]; rfl, B5.out⟩
          · have k1 : ((2 : Int) == 1) = false := by decide
            cases hr : decide (roomF (l.take j) pn = 0) with
            | false =>
              have r0 : roomF (l.take j) pn ≠ 0 := by simpa using hr
              have r1 : (roomF (l.take j) pn == 0) = false := by simpa using r0
              have r2 : (roomF (l.take j) pn != 0) = true := by simpa using r0
              have HR0 := kd r0
              clear r0 hr
              have E := kd (NS.out.bad HP.out (.inr (.inr (.inr (.inr HR0.out)))))
              clear NS HR0
              generalize roomF (l.take j) pn = rm at *
              refine region_bw (by kernel_rfl) (by kernel_rfl) ?_
              repeat go_big_quiet_step (fail)
              go_big_quiet_step (exact calls_bw (PN.out _))
              repeat go_big_quiet_step (fail)
              go_big_quiet_step (exact calls_bw (PV.out _))
              repeat go_big_quiet_step (fail)
              go_big_quiet_step (exact calls_bw (RO.out _))
              repeat go_big_quiet_step (fail)
              refine wpQuiet_nil ?_
              rintro _ ⟨y, rfl⟩
              have B5 := kd (bthen B2.out y.h)
              clear q0 q1 q2 PN PV RO B2
              generalize y.w = w5 at *
              go_wp2_with fail
              go_ret
              exact ⟨by rw [E.out]; rfl, B5.out⟩
            | true =>
              have r0 : roomF (l.take j) pn = 0 := by simpa using hr
              have NX0 := kd (show ¬ badP l 2 j ⟨pn, pv, true⟩ from by
                unfold badP
                rintro (h | h | h | h | h)
                · exact n0 h
                · rw [cn] at h; cases h
                · rw [cv] at h; cases h
                · exact (show ¬ _ from fun h => h.elim (fun h => by cases h.2) (fun h => absurd h.1 (by decide))) h
                · exact h r0)
              rw [r0] at RO
              clear r0 hr
              have NX := kd (NS.out.next HP.out (NX0.out))
              clear NS
              refine region_bw (by kernel_rfl) (by kernel_rfl) ?_
              repeat go_big_quiet_step (fail)
              go_big_quiet_step (exact calls_bw (PN.out _))
              repeat go_big_quiet_step (fail)
              go_big_quiet_step (exact calls_bw (PV.out _))
              repeat go_big_quiet_step (fail)
              go_big_quiet_step (exact calls_bw (RO.out _))
              repeat go_big_quiet_step (fail)
              refine wpQuiet_nil ?_
              rintro _ ⟨y, rfl⟩
              have B5 := kd (bthen B2.out y.h)
              clear q0 q1 q2 PN PV RO B2
              generalize y.w = w5 at *
              go_wp2_with fail
              go_roundw
              case rel => exact ⟨j + 1, by omega, by go_num, NX, B5⟩
              case measure => simp [intOf]; omega
        · have t5 : ¬ (strOfNums pv).toList = [] := fun h => v0 (num_nil.1 h)
          have t6 : ((strOfNums pv).toList == []) = false := by simpa using t5
          have t7 : ((strOfNums pv).toList != []) = true := by simpa using t5
          cases hr : decide (roomF (l.take j) pn = 0) with
          | false =>
            have r0 : roomF (l.take j) pn ≠ 0 := by simpa using hr
            have r1 : (roomF (l.take j) pn == 0) = false := by simpa using r0
            have r2 : (roomF (l.take j) pn != 0) = true := by simpa using r0
            have HR0 := kd r0
            clear r0 hr
            have E := kd (NS.out.bad HP.out (.inr (.inr (.inr (.inr HR0.out)))))
            clear NS HR0
            generalize roomF (l.take j) pn = rm at *
            refine region_bw (by kernel_rfl) (by kernel_rfl) ?_
            repeat go_big_quiet_step (fail)
            go_big_quiet_step (exact calls_bw (PN.out _))
            repeat go_big_quiet_step (fail)
            go_big_quiet_step (exact calls_bw (PV.out _))
            repeat go_big_quiet_step (fail)
            go_big_quiet_step (exact calls_bw (RO.out _))
            repeat go_big_quiet_step (fail)
            refine wpQuiet_nil ?_
            rintro _ ⟨y, rfl⟩
            have B5 := kd (bthen B2.out y.h)
            clear q0 q1 q2 PN PV RO B2
            generalize y.w = w5 at *
            go_wp2_with fail
            go_ret
            exact ⟨by rw [E.out]; rfl, B5.out⟩
          | true =>
            have r0 : roomF (l.take j) pn = 0 := by simpa using hr
            have NX0 := kd (show ¬ badP l k j ⟨pn, pv, true⟩ from by
              unfold badP
              rintro (h | h | h | h | h)
              · exact n0 h
              · rw [cn] at h; cases h
              · rw [cv] at h; cases h
              · exact (show ¬ _ from fun h => h.elim (fun h => by cases h.2) (fun h => h.2 (by cases pv with | nil => exact absurd rfl v0 | cons a b => rfl))) h
              · exact h r0)
            rw [r0] at RO
            clear r0 hr
            have NX := kd (NS.out.next HP.out (NX0.out))
            clear NS
            refine region_bw (by kernel_rfl) (by kernel_rfl) ?_
            repeat go_big_quiet_step (fail)
            go_big_quiet_step (exact calls_bw (PN.out _))
            repeat go_big_quiet_step (fail)
            go_big_quiet_step (exact calls_bw (PV.out _))
            repeat go_big_quiet_step (fail)
            go_big_quiet_step (exact calls_bw (RO.out _))
            repeat go_big_quiet_step (fail)
            refine wpQuiet_nil ?_
            rintro _ ⟨y, rfl⟩
            have B5 := kd (bthen B2.out y.h)
            clear q0 q1 q2 PN PV RO B2
            generalize y.w = w5 at *
            go_wp2_with fail
            go_roundw
            case rel => exact ⟨j + 1, by omega, by go_num, NX, B5⟩
            case measure => simp [intOf]; omega
    · obtain rfl : j = n := by omega
      have hd2 : decide ((j : Int) < (j : Int)) = false := by simp
      have E := kd (show R = true from NmS.end (by rw [HN.out]; exact NS.out))
      go_wp2_with fail
      go_ret
      exact ⟨by rw [E.out]; rfl, HV.out⟩

theorem rlow_any (A : Option Addr) (n c : Nat) (l : List Pm) (w : World) (hA : Rds w w.heap.size A (pms l)) (hn : l.length = n) (hN : n ≤ 1000000) (hl : ∀ p ∈ l, pmSz p) :
    Calls Tryz.prog 102 #[.slice A n c] w fun e w' => ∃ v, e = .returned v ∧ VX 56 3 w v n (pms (sortPm (l.map lowPm))) w' := by
  have HA := kd hA; have HN := kd hn; have HL := kd hl
  clear hA hn hl
  go_enter Tryz.func102, Tryz.ntmps102
  go_wp2_with fail
  go_loopw [3, 4] (fun v vj wr => ∃ (j : Nat) (v' : Value), v' = v ∧ vj = .int .i64 j ∧ j ≤ n ∧ Hid (VX 56 3 w v' ((l.take j).map lowPm).length (pms ((l.take j).map lowPm)) wr)) (fun _ v _ => n - (intOf v).toNat)
  case atStart => exact ⟨0, _, rfl, rfl, Nat.zero_le _, kd (VX.nil _ _ _)⟩
  case round =>
    obtain ⟨j, v, rfl, rfl, hj, HV⟩ := hrel
    by_cases hlt : j < n
    · have hd2 : decide ((j : Int) < (n : Int)) = true := by simp; omega
      obtain ⟨p, hp⟩ : ∃ p, l[j]? = some p := ⟨_, List.getElem?_eq_getElem (by rw [HN.out]; exact hlt)⟩
      obtain ⟨x1, o1, hA1, hx1, hc1⟩ := HA.out (by rw [pms_len, HN.out]; omega)
      have G1 := kd (show wr.rangeAt x1 (o1 + j * 3) (pmC p) from fun i v hv => (HV.out.bw.cell (p := ⟨x1, _, none⟩) hx1).trans (Rds.range2 hc1 (j * 3) _ (pms_at hp) i v hv))
      obtain ⟨pnb, pvb, pnl, pvl⟩ := HL.out p (List.mem_of_getElem? hp)
      have TK := kd (show (l.take (j + 1)).map lowPm = (l.take j).map lowPm ++ [lowPm p] by rw [List.take_add_one, hp, List.map_append]; rfl)
      have LN := kd (show ((l.take j).map lowPm).length = j by rw [List.length_map, List.length_take, HN.out]; omega)
      clear hc1 hp hx1
      obtain ⟨pn, pv, ph⟩ := p
      dsimp only at pnb pvb pnl pvl
      have G2 := kd (show wr.rangeAt x1 (o1 + j * 3) [.string (strOfNums pn), .string (strOfNums pv), .bool ph] from G1.out)
      have LW := kd (fun w => reflower_any (strOfNums pn) w (by rw [num_size]; exact pnl))
      rw [byteL_str pnb] at LW
      have RP := kd (Row.new wr 56 [.string (strOfNums pn), .string (strOfNums pv), .bool ph])
      have B2 := kd ((Below.refl wr.heap.size wr).alloc (Nat.le_refl _) (.cells #[.string (strOfNums pn), .string (strOfNums pv), .bool ph] 56))
      have PG := kd (Nat.le_refl wr.heap.size)
      subst hA1
      clear G1 pnb pvb pnl pvl
      go_upto_region 6 with (with_reducible refine wpList_load_mid rfl 56 (.tmp 14) rfl x1 (o1 + j * 3) rfl [.string (strOfNums pn), .string (strOfNums pv), .bool ph] _ G2.out Tryz.underlying56 rfl (sizePm _ _ _) ?_)
      clear G2
      generalize wr.alloc (.cells #[.string (strOfNums pn), .string (strOfNums pv), .bool ph] 56) = w2 at *
      obtain ⟨pb, hpb⟩ : ∃ pb, wr.heap.size = pb := ⟨_, rfl⟩
      rw [hpb] at RP ⊢
      have PG2 := kd (show wr.heap.size ≤ pb from hpb ▸ Nat.le_refl _)
      clear hpb PG
      have k0 : w2.cell? ⟨pb, 0, none⟩ = some (.string (strOfNums pn)) := RP.out.cell 0
      go_wp2_with fail
      refine (LW.out w2).mono ?_
      rintro e w3 ⟨rfl, hb⟩
      have RP3 := kd (RP.out.below hb)
      have B3 := kd (bthen B2.out hb)
      clear k0 hb RP B2 LW
      have f0 : w3.frozen? ⟨pb, 0, none⟩ = false := RP3.out.frozen 0
      have k0 : w3.cell? ⟨pb, 0, none⟩ = some (.string (strOfNums pn)) := RP3.out.cell 0
      obtain ⟨nm, hnm⟩ : ∃ nm, lowS pn = nm := ⟨_, rfl⟩
      rw [hnm]
      have RP4 := kd (show Row (w3.setCell ⟨pb, 0, none⟩ (.string (strOfNums nm))) pb 56 [.string (strOfNums nm), .string (strOfNums pv), .bool ph] from RP3.out.set 0 _)
      have B4 := kd (B3.out.setCell (p := ⟨pb, 0, none⟩) PG2.out (.string (strOfNums nm)))
      have V4 := kd (HV.out.step B4.out)
      have TK2 := kd (show (l.take (j + 1)).map lowPm = (l.take j).map lowPm ++ [⟨nm, pv, ph⟩] by rw [TK.out, ← hnm]; rfl)
      have B1 := kd (show ((l.take j).map lowPm).length + 1 ≤ 16777216 by rw [LN.out]; omega)
      clear hnm TK
      go_upto_region 7 with (fail)
      clear f0 k0 RP3 B3
      generalize w3.setCell ⟨pb, 0, none⟩ (.string (strOfNums nm)) = w4 at *
      go_wp2_with (first
        | (with_reducible refine wpList_loadR rfl 56 (.tmp 5) rfl RP4.out rfl Tryz.underlying56 rfl (sizePm _ _ _) ?_)
        | (with_reducible refine wpList_pushF rfl (.tmp 20) (.tmp 22) rfl rfl V4.out ⟨nm, pv, ph⟩ rfl B1.out ?_; intro v7 w7 H7))
      go_roundw
      case rel => exact ⟨j + 1, _, rfl, by go_num, by omega, kd (by rw [TK2.out]; exact H7.out)⟩
      case measure => simp [intOf]; omega
    · obtain rfl : j = n := by omega
      have hd2 : decide ((j : Int) < (j : Int)) = false := by simp
      have TE : (l.take j).map lowPm = l.map lowPm := by rw [List.take_of_length_le (by rw [HN.out]; exact Nat.le_refl _)]
      rw [TE] at HV
      have ML := kd (show (l.map lowPm).length = j by rw [List.length_map, HN.out])
      rw [ML.out] at HV
      obtain ⟨A', c', hv, hA'⟩ := HV.out.rdw
      subst hv
      have SO := kd (rsorted_any A' j c' (l.map lowPm) wr hA' ML.out hN (fun p hp => by
        obtain ⟨q, hq, rfl⟩ := List.mem_map.1 hp
        exact lowS_by (HL.out q hq).1))
      clear TE hA'
      go_wp2_with (go_at_call 47; refine SO.out.mono ?_; rintro _ w2 ⟨v2, rfl, V2⟩)
      go_ret
      exact ⟨_, rfl, V2.base HV.out.bw⟩
theorem teled_eq {xs : List Int} {T : List Int} {z : Nat × Int} {j : Nat} (hT : PhoX xs 0 (strOfNums T) z j) (hb : By T) : (decide (z.2 = 0) && decide (T = xs)) = dialedL xs := by
  have hk := phone_ok (xs := xs) (a := 0) (Nat.zero_le _)
  obtain ⟨_, h⟩ := hT
  cases hp : phoneL xs 0 with
  | error e =>
    rw [hp] at h hk
    dsimp only at h hk
    subst h
    rw [decide_eq_false hk.2, Bool.false_and]
    symm
    rw [Bool.eq_false_iff]
    intro hd
    have := phone_read hd [] [] (.inl rfl)
    rw [List.append_nil, List.nil_append] at this
    rw [show (([] : List Int).length) = 0 from rfl] at this
    rw [this] at hp
    cases hp
  | ok r =>
    rw [hp] at h hk
    dsimp only at h hk
    obtain ⟨h1, h2, h3⟩ := h
    subst h2
    have e : T = r.1 := by have := congrArg byteL h1; rwa [byteL_str hb, byteL_str hk.1] at this
    subst e
    rw [show decide (((0, 0) : Nat × Int).2 = 0) = true from rfl, Bool.true_and]
    by_cases hx : r.1 = xs
    · rw [decide_eq_true hx, ← hx]; exact hk.2.1.symm
    · rw [decide_eq_false hx]
      symm
      rw [Bool.eq_false_iff]
      intro hd
      have := phone_read hd [] [] (.inl rfl)
      rw [List.append_nil, List.nil_append] at this
      rw [show (([] : List Int).length) = 0 from rfl] at this
      rw [this] at hp
      injection hp with hp
      exact hx (by rw [← hp])

theorem rteled_any (s : ByteArray) (w : World) (hs : s.size ≤ 4000000) : Calls Tryz.prog 103 #[.string s] w fun e w' => e = .returned (.bool (dialedL (byteL s))) ∧ Below w.heap.size w w' := by
  have R0 := kd (Row.new w 93 (rdC s 0 (0, 0)))
  have B0 := kd ((Below.refl w.heap.size w).alloc (Nat.le_refl _) (.cells (rdC s 0 (0, 0)).toArray 93))
  have TL := kd (rtel_any _ w.heap.size 0 s R0.out (Nat.zero_le _) hs)
  unfold rdC at TL B0
  have TE := kd (fun (T : ByteArray) z j (h : PhoX (byteL s) 0 T z j) => teled_eq (T := byteL T) (by rw [str_byteL]; exact h) (byteL_by T))
  generalize dialedL (byteL s) = R at *
  clear R0
  go_enter Tryz.func103, Tryz.ntmps103
  go_upto_region 3 with (go_at_call 79; refine TL.out.mono ?_; rintro _ w2 ⟨T, z, j, rfl, h2, hT⟩)
  have E := kd (TE.out T z j hT)
  have k3 := h2.r.cell 3
  simp only [rdC, List.getElem?_cons_succ, List.getElem?_cons_zero] at k3
  have B2 := kd (B0.out.grown h2.g B0.out.size (fun k hk => by injection hk with hk; omega))
  clear TL TE hT h2 B0
  obtain ⟨zn, zk⟩ := z
  dsimp only at k3 E
  by_cases hz : zk = 0
  · subst hz
    by_cases hTs : T = s
    · subst hTs
      have E2 := kd (show R = true by rw [← E.out]; simp)
      have q1 : (T.toList == T.toList) = true := by simp
      clear E
      go_wp2_with fail
      go_ret
      exact ⟨by rw [E2.out]; rfl, B2.out⟩
    · have hb : byteL T ≠ byteL s := fun h => hTs (by rw [← str_byteL T, h, str_byteL])
      have E2 := kd (show R = false by rw [← E.out, decide_eq_false hb]; simp)
      have q1 : (T.toList == s.toList) = false := by rw [tl_beq]; simpa using hb
      clear E hTs hb
      go_wp2_with fail
      go_ret
      exact ⟨by rw [E2.out]; rfl, B2.out⟩
  · have e1 : (zk == 0) = false := by simpa using hz
    have E2 := kd (show R = false by rw [← E.out, decide_eq_false hz]; rfl)
    clear E hz
    go_wp2_with fail
    go_ret
    exact ⟨by rw [E2.out]; rfl, B2.out⟩

def wrT (k : Int) (m1 m2 : List Int) : List Pm → List Int
  | [] => []
  | p :: r => m1 ++ escT k p.n ++ (if p.h = true then [61] ++ escT k p.v else []) ++ wrT k m2 m2 r
theorem wrT_ps (l : List Pm) : wrT 1 [59] [59] l = l.flatMap pmT := by
  induction l with
  | nil => rfl
  | cons p r ih => rw [wrT, ih, List.flatMap_cons]; rfl
theorem wrT_hs (m : List Int) : ∀ (l : List Pm) (b : Bool), (∀ p ∈ l, p.h = true) → (if b = true then [63] else [38]) = m → wrT 2 m [38] l = hdsT l b
  | [], b, _, _ => rfl
  | p :: r, b, h, hm => by
    rw [wrT, wrT_hs [38] r false (fun q hq => h q (List.mem_cons_of_mem _ hq)) rfl, if_pos (h p (List.mem_cons_self ..))]
    show _ = (if b = true then [63] else [38]) ++ hdT p ++ hdsT r false
    unfold hdT
    rw [hm]
    simp
theorem esc3 (k : Int) (s : List Int) : (escT k s).length ≤ 3 * s.length := by
  unfold escT
  induction s with
  | nil => simp
  | cons c r ih =>
    rw [List.flatMap_cons, List.length_append, List.length_cons]
    have : (escC2 k c).length ≤ 3 := by unfold escC2; split <;> simp
    omega
theorem rwrite_any (A : Option Addr) (n c : Nat) (l : List Pm) (m1 m2 : ByteArray) (k : Int) (w : World) (hA : Rds w w.heap.size A (pms l)) (hn : l.length = n) (hN : n ≤ 1000) (h1 : m1.size ≤ 10) (h2 : m2.size ≤ 10) (hl : ∀ p ∈ l, pmSz p) :
    Calls Tryz.prog 104 #[.slice A n c, .string m1, .string m2, .int .i64 k] w fun e w' => e = .returned (.string (strOfNums (wrT k (byteL m1) (byteL m2) l))) ∧ Below w.heap.size w w' := by
  have HA := kd hA; have HN := kd hn; have HL := kd hl
  obtain ⟨W, hW⟩ : ∃ W, wrT k (byteL m1) (byteL m2) l = W := ⟨_, rfl⟩
  rw [hW]
  have HW := kd hW
  clear hA hn hl hW
  go_enter Tryz.func104, Tryz.ntmps104
  go_wp2_with fail
  go_loopw [9, 10, 11] (fun vo vm vj wr => ∃ (j : Nat) (acc : List Int) (m : ByteArray), vo = .string (strOfNums acc) ∧ vm = .string m ∧ vj = .int .i64 j ∧ j ≤ n ∧ m.size ≤ 10 ∧ acc.length ≤ j * 25000000 ∧ Hid (acc ++ wrT k (byteL m) (byteL m2) (l.drop j) = W) ∧ Hid (Below w.heap.size w wr)) (fun _ _ v _ => n - (intOf v).toNat)
  case atStart => exact ⟨0, [], m1, rfl, rfl, rfl, Nat.zero_le _, h1, by simp, kd (by rw [List.drop_zero]; exact HW.out), kd (Below.refl _ _)⟩
  case round =>
    clear HW
    obtain ⟨j, acc, m, rfl, rfl, rfl, hj, hm, hacc, HE, HB⟩ := hrel
    by_cases hlt : j < n
    · have hd2 : decide ((j : Int) < (n : Int)) = true := by simp; omega
      obtain ⟨p, hp⟩ : ∃ p, l[j]? = some p := ⟨_, List.getElem?_eq_getElem (by rw [HN.out]; exact hlt)⟩
      obtain ⟨x1, o1, hA1, hx1, hc1⟩ := HA.out (by rw [pms_len, HN.out]; omega)
      have G1 := kd (fun W' (hb : Below w.heap.size w W') => show W'.rangeAt x1 (o1 + j * 3) (pmC p) from fun i v hv => (hb.cell (p := ⟨x1, _, none⟩) hx1).trans (Rds.range2 hc1 (j * 3) _ (pms_at hp) i v hv))
      obtain ⟨pnb, pvb, pnl, pvl⟩ := HL.out p (List.mem_of_getElem? hp)
      have ED := kd (show acc ++ (byteL m ++ escT k p.n ++ (if p.h = true then [61] ++ escT k p.v else []) ++ wrT k (byteL m2) (byteL m2) (l.drop (j + 1))) = W by rw [← HE.out, dropPm hp]; rfl)
      clear hc1 hp hx1 HE
      obtain ⟨pn, pv, ph⟩ := p
      dsimp only at pnb pvb pnl pvl ED
      have k0 : ∀ W', Below w.heap.size w W' → W'.cell? ⟨x1, o1 + j * 3, none⟩ = some (.string (strOfNums pn)) := fun W' hb => by have := G1.out W' hb 0 (.string (strOfNums pn)) rfl; rwa [Nat.add_zero] at this
      have k1 : ∀ W', Below w.heap.size w W' → W'.cell? ⟨x1, o1 + j * 3 + 1, none⟩ = some (.string (strOfNums pv)) := fun W' hb => G1.out W' hb 1 (.string (strOfNums pv)) rfl
      have k2 : ∀ W', Below w.heap.size w W' → W'.cell? ⟨x1, o1 + j * 3 + 2, none⟩ = some (.bool ph) := fun W' hb => G1.out W' hb 2 (.bool ph) rfl
      have K1 := kd k1; have K2 := kd k2
      have c0 := k0 wr HB.out
      have EN := kd (fun w => rescape_any (strOfNums pn) k w (by rw [num_size]; exact pnl))
      have EV := kd (fun w => rescape_any (strOfNums pv) k w (by rw [num_size]; exact pvl))
      rw [byteL_str pnb] at EN
      rw [byteL_str pvb] at EV
      have L1 := esc3 k pn
      have L2 := esc3 k pv
      have SA := num_size acc
      have SN := num_size (escT k pn)
      have SV := num_size (escT k pv)
      subst hA1
      have J1 := kd (show strOfNums acc ++ m ++ strOfNums (escT k pn) = strOfNums (acc ++ byteL m ++ escT k pn) by rw [← str_append, ← str_append, str_byteL])
      have cc1 : ¬ (9223372036854775807 < (strOfNums acc).size + m.size) := by rw [SA]; omega
      have cc2 : ¬ (9223372036854775807 < (strOfNums acc).size + m.size + (strOfNums (escT k pn)).size) := by rw [SA, SN]; omega
      have LM := byteL_len m
      clear k0 k1 k2 G1 pnb pvb
      cases ph with
      | false =>
        have ED2 := kd (show (acc ++ byteL m ++ escT k pn) ++ wrT k (byteL m2) (byteL m2) (l.drop (j + 1)) = W by rw [← ED.out]; simp)
        have LA : (acc ++ byteL m ++ escT k pn).length ≤ (j + 1) * 25000000 := by rw [List.length_append, List.length_append, LM]; omega
        clear ED SV L2 EV
        generalize strOfNums (escT k pn) = en at *
        generalize hac : acc ++ byteL m ++ escT k pn = acc2 at *
        clear hac
        go_upto_region 7 with (go_at_call 17; refine (EN.out _).mono ?_; rintro _ w2 ⟨rfl, hb2⟩)
        have B2 := kd (bthen HB.out hb2)
        have c2 := K2.out w2 B2.out
        clear hb2 EN c0
        go_wp2_with fail
        go_roundw
        case rel => exact ⟨j + 1, acc2, m2, by rw [← J1.out], rfl, by go_num, by omega, h2, LA, ED2, B2⟩
        case measure => simp [intOf]; omega
      | true =>
        have ED2 := kd (show (acc ++ byteL m ++ escT k pn ++ [61] ++ escT k pv) ++ wrT k (byteL m2) (byteL m2) (l.drop (j + 1)) = W by rw [← ED.out]; simp)
        have LA : (acc ++ byteL m ++ escT k pn ++ [61] ++ escT k pv).length ≤ (j + 1) * 25000000 := by rw [List.length_append, List.length_append, List.length_append, List.length_append, LM]; simp; omega
        have S1 := num_size (acc ++ byteL m ++ escT k pn)
        have J2 := kd (show strOfNums (acc ++ byteL m ++ escT k pn) ++ ⟨#[61]⟩ ++ strOfNums (escT k pv) = strOfNums (acc ++ byteL m ++ escT k pn ++ [61] ++ escT k pv) by rw [show (⟨#[61]⟩ : ByteArray) = strOfNums [61] by rfl, str_append, str_append])
        have LB : (acc ++ byteL m ++ escT k pn).length ≤ (j + 1) * 25000000 := by rw [List.length_append, List.length_append, LM]; omega
        have cd1 : ¬ (9223372036854775807 < (strOfNums (acc ++ byteL m ++ escT k pn)).size + 1) := by rw [S1]; omega
        have cd2 : ¬ (9223372036854775807 < (strOfNums (acc ++ byteL m ++ escT k pn)).size + 1 + (strOfNums (escT k pv)).size) := by rw [S1, SV]; omega
        clear ED
        generalize strOfNums (escT k pn) = en at *
        generalize strOfNums (escT k pv) = ev at *
        generalize hac : acc ++ byteL m ++ escT k pn = acc1 at *
        generalize hac2 : acc1 ++ [61] ++ escT k pv = acc2 at *
        clear hac hac2
        go_upto_region 7 with (go_at_call 17; refine (EN.out _).mono ?_; rintro _ w2 ⟨rfl, hb2⟩)
        have B2 := kd (bthen HB.out hb2)
        have c2 := K2.out w2 B2.out
        have c1 := K1.out w2 B2.out
        rw [J1.out]
        clear hb2 EN c0 cc1 cc2 J1
        go_wp2_with (go_at_call 17; refine (EV.out _).mono ?_; rintro _ w3 ⟨rfl, hb3⟩; have B3 := kd (bthen B2.out hb3))
        go_roundw
        case rel => exact ⟨j + 1, acc2, m2, by rw [← J2.out], rfl, by go_num, by omega, h2, LA, ED2, B3⟩
        case measure => simp [intOf]; omega
    · obtain rfl : j = n := by omega
      have hd2 : decide ((j : Int) < (j : Int)) = false := by simp
      have E := kd (show acc = W by rw [← HE.out, List.drop_of_length_le (by rw [HN.out]; exact Nat.le_refl _)]; simp [wrT])
      clear HE
      go_wp2_with fail
      go_ret
      exact ⟨by rw [← E.out]; rfl, HB.out⟩

structure NP (w : World) (ub rb : Nat) (us : List Value) (vs : List (Value × List Pm)) (wx : World) : Prop where
  m : Mine w wx [(ub, 32, us), (rb, 32, uZ)] []
  v : ∀ x ∈ vs, VX 56 3 w x.1 x.2.length (pms x.2) wx
section
variable {w wx w2 : World} {ub rb : Nat} {us : List Value} {vs : List (Value × List Pm)}
theorem NP.ur (h : NP w ub rb us vs wx) : Row wx ub 32 us := h.m.row (i := 0) rfl
theorem NP.call (h : NP w ub rb us vs wx) (hb : Below wx.heap.size wx w2) : NP w ub rb us vs w2 := ⟨h.m.call hb, fun x hx => (h.v x hx).step hb⟩
theorem NP.set (h : NP w ub rb us vs wx) (n : Nat) (u : Value) : NP w ub rb (us.set n u) vs (wx.setCell ⟨ub, n, none⟩ u) :=
  ⟨h.m.setCell (i := 0) (off := n) u rfl rfl, fun x hx => (h.v x hx).other (h.m.bw.setCell (h.m.ge (i := 0) rfl) u) fun g hg => Below.heap_setCell wx ⟨ub, n, none⟩ u g (rowT_nv h.ur (h.v x hx) (by decide) g hg)⟩
theorem NP.more (h : NP w ub rb us vs wx) {v : Value} {l : List Pm} {n : Nat} (hn : l.length = n) (hv : VX 56 3 wx v n (pms l) w2) : NP w ub rb us ((v, l) :: vs) w2 := by
  subst hn
  have h2 := h.call hv.bw
  refine ⟨h2.m, fun x hx => ?_⟩
  rcases List.mem_cons.1 hx with rfl | hx
  · exact hv.base h.m.bw
  · exact h2.v x hx
end
theorem fldsN_map (k : Int) : ∀ (l acc m : List Pm), fldsN k l acc = some m → m = acc ++ l.map lowPm
  | [], acc, m, h => by
    unfold fldsN at h
    injection h with h
    rw [← h]; simp
  | p :: r, acc, m, h => by
    rw [fldsN_cons] at h
    split at h
    · cases h
    · split at h
      · cases h
      · rw [fldsN_map k r _ m h]; simp [lowPm]
theorem flds_map {k : Int} {l m : List Pm} (h : fldsL l k = some m) : m = sortPm (l.map lowPm) ∧ m.length = l.length := by
  unfold fldsL at h
  split at h
  · cases h
  · rw [Option.map_eq_some_iff] at h
    obtain ⟨m', h1, h2⟩ := h
    have h3 := fldsN_map k l [] m' h1
    rw [List.nil_append] at h3
    subst h3
    subst h2
    exact ⟨rfl, by rw [sort_len, List.length_map]⟩
theorem dial_clean {s : List Int} (h : dialedL s = true) : clean s = true := by
  have h2 := phone_read h [] [] (.inl rfl)
  rw [List.append_nil, List.nil_append] at h2
  unfold dialedL at h
  simp only [Bool.and_eq_true] at h
  unfold clean
  rw [List.all_eq_true]
  intro c hc
  have hd := h.2
  have key : ∀ d : List Int, d.all (telC (decide (s.head? = some 43))) = true → ∀ x ∈ d, (!isCtl x) = true := fun d hd x hx => by
    have := telC_range (List.all_eq_true.1 hd x hx)
    unfold isCtl
    simp
    omega
  by_cases hs : s.head? = some 43
  · rw [decide_eq_true hs, if_pos rfl] at hd
    cases s with
    | nil => cases hc
    | cons a r =>
      have ha : a = 43 := by simpa using hs
      rcases List.mem_cons.1 hc with rfl | hc
      · subst ha; rfl
      · exact key r (by rw [decide_eq_true hs]; exact hd) c hc
  · rw [decide_eq_false hs, if_neg (by decide)] at hd
    exact key s (by rw [decide_eq_false hs]; exact hd) c hc
theorem norm_none1 {u : Uri} (h : fldsL u.ps 1 = none) : normL u = none := by unfold normL; rw [h]
theorem norm_none2 {u : Uri} (h : fldsL u.hs 2 = none) : normL u = none := by unfold normL; rw [h]; cases fldsL u.ps 1 <;> rfl
theorem fine_of {u : Uri} {fn : Bool} {ho : List Int} {ps hs : List Pm} (h : FineOf u fn ho) (h1 : fldsL u.ps 1 = some ps) (h2 : fldsL u.hs 2 = some hs) : normL u = if fn = true then some ⟨lowS u.sc, u.us, ho, u.po, ps, hs⟩ else none := by
  unfold FineOf at h
  rw [h, h1, h2]
theorem norm_clean {u : Uri} (h : clean u.us = false) : normL u = none := by
  cases h1 : fldsL u.ps 1 with
  | none => exact norm_none1 h1
  | some ps =>
    cases h2 : fldsL u.hs 2 with
    | none => exact norm_none2 h2
    | some hs =>
      by_cases hs1 : lowS u.sc = SIPT ∨ lowS u.sc = SIPST
      · rw [fine_of (fine_sip hs1) h1 h2, h, Bool.and_false]; rfl
      · by_cases ht : lowS u.sc = TELT
        · rw [fine_of (fine_tel ht) h1 h2]
          have : dialedL u.us = false := by
            rw [Bool.eq_false_iff]; intro hd
            rw [dial_clean hd] at h; cases h
          rw [this, Bool.and_false]; rfl
        · rw [fine_of (fine_no hs1 ht) h1 h2]; rfl
theorem rnormal_any (u : Uri) (A1 A2 : Option Addr) (c1 c2 : Nat) (w : World) (H : UArg w u A1 A2) (hc1 : u.ps.length ≤ c1) (hc2 : u.hs.length ≤ c2) (hp : -9223372036854775808 ≤ u.po ∧ u.po < 9223372036854775808) (hq1 : u.ps.length ≤ 1000000) (hq2 : u.hs.length ≤ 1000000) :
    Calls Tryz.prog 34 #[uS u A1 A2 c1 c2] w (NormP w (normL u)) := by
  have BAD := kd (fun w' (h : normL u = none) hb => NormP.bad (w := w) (w' := w') h hb)
  have GOOD := kd (fun w' sc us ho po ps hs v1 v2 (h : normL u = some ⟨sc, us, ho, po, ps, hs⟩) h1 h2 => NormP.good (w := w) (w' := w') (v1 := v1) (v2 := v2) h h1 h2)
  have N1 := kd (norm_none1 (u := u)); have N2 := kd (norm_none2 (u := u)); have NC := kd (norm_clean (u := u))
  have FS := kd (fun (h : lowS u.sc = SIPT ∨ lowS u.sc = SIPST) ps hs h1 h2 => fine_of (ps := ps) (hs := hs) (fine_sip h) h1 h2)
  have FT := kd (fun (h : lowS u.sc = TELT) ps hs h1 h2 => fine_of (ps := ps) (hs := hs) (fine_tel h) h1 h2)
  have FN := kd (fun (h : ¬ (lowS u.sc = SIPT ∨ lowS u.sc = SIPST)) (h' : lowS u.sc ≠ TELT) ps hs h1 h2 => fine_of (ps := ps) (hs := hs) (fine_no h h') h1 h2)
  have HU := kd H
  have SB := lowS_by H.by_.sc
  have LO := kd (fun w => reflower_any (strOfNums u.sc) w (by rw [num_size]; exact H.n1))
  rw [byteL_str H.by_.sc] at LO
  have NA := kd (fun w' (hb : Below w.heap.size w w') => rnamed_any A1 _ c1 u.ps 1 w' ((H.step hb).r1) rfl H.l1 hc1 H.s1 (.inl rfl))
  have NB := kd (fun w' (hb : Below w.heap.size w w') => rnamed_any A2 _ c2 u.hs 2 w' ((H.step hb).r2) rfl H.l2 hc2 H.s2 (.inr rfl))
  have PU := kd (fun w => rplain_any (strOfNums u.us) w (by rw [num_size]; exact H.n2))
  rw [byteL_str H.by_.us] at PU
  have L1 := kd (fun w' (hb : Below w.heap.size w w') => rlow_any A1 _ c1 u.ps w' ((H.step hb).r1) rfl hq1 H.s1)
  have L2 := kd (fun w' (hb : Below w.heap.size w w') => rlow_any A2 _ c2 u.hs w' ((H.step hb).r2) rfl hq2 H.s2)
  have HH := kd (fun w => rhost_any (strOfNums u.ho) w (by rw [num_size]; exact H.n3))
  rw [byteL_str H.by_.ho] at HH
  have TD := kd (fun w => rteled_any (strOfNums u.us) w (by rw [num_size]; exact H.n2))
  rw [byteL_str H.by_.us] at TD
  have EH := empty_beq u.ho
  have M0a : Mine w ((w.alloc (.cells #[.string (strOfNums u.sc), .string (strOfNums u.us), .string (strOfNums u.ho), .int .i64 u.po, .slice A1 u.ps.length c1, .slice A2 u.hs.length c2] 32)).alloc (.cells #[.string ⟨#[]⟩, .string ⟨#[]⟩, .string ⟨#[]⟩, .int .i64 0, .slice none 0 0, .slice none 0 0] 32)) [((w.alloc (.cells #[.string (strOfNums u.sc), .string (strOfNums u.us), .string (strOfNums u.ho), .int .i64 u.po, .slice A1 u.ps.length c1, .slice A2 u.hs.length c2] 32)).heap.size, 32, [.string ⟨#[]⟩, .string ⟨#[]⟩, .string ⟨#[]⟩, .int .i64 0, .slice none 0 0, .slice none 0 0]), (w.heap.size, 32, [.string (strOfNums u.sc), .string (strOfNums u.us), .string (strOfNums u.ho), .int .i64 u.po, .slice A1 u.ps.length c1, .slice A2 u.hs.length c2])] [] := ((Mine.refl w).alloc 32 [.string (strOfNums u.sc), .string (strOfNums u.us), .string (strOfNums u.ho), .int .i64 u.po, .slice A1 u.ps.length c1, .slice A2 u.hs.length c2]).alloc 32 [.string ⟨#[]⟩, .string ⟨#[]⟩, .string ⟨#[]⟩, .int .i64 0, .slice none 0 0, .slice none 0 0]
  rw [World.size_alloc] at M0a
  have NP0 := kd (show NP w w.heap.size (w.heap.size + 1) [.string (strOfNums u.sc), .string (strOfNums u.us), .string (strOfNums u.ho), .int .i64 u.po, .slice A1 u.ps.length c1, .slice A2 u.hs.length c2] [] _ from ⟨M0a.sub (fun x hx => by
    simp only [List.mem_cons, List.not_mem_nil, or_false] at hx ⊢
    rcases hx with rfl | rfl
    · exact .inr rfl
    · exact .inl rfl) ((List.Perm.swap _ _ _).nodup_iff.1 M0a.nd), (fun x hx => by cases hx)⟩)
  clear M0a H hc1 hc2
  obtain ⟨usc, us, uho, po, ups, uhs⟩ := u
  dsimp only at *
  obtain ⟨sc, hsc⟩ : ∃ sc, lowS usc = sc := ⟨_, rfl⟩
  rw [hsc] at SB LO FS FT FN
  have HSB := kd SB
  clear hsc SB
  generalize NormP w (normL ⟨usc, us, uho, po, ups, uhs⟩) = PP at *
  generalize normL ⟨usc, us, uho, po, ups, uhs⟩ = R at *
  unfold uS
  dsimp only
  go_enter Tryz.func34, Tryz.ntmps34
  go_upto_region 1 with (fail)
  generalize (w.alloc (.cells #[.string (strOfNums usc), .string (strOfNums us), .string (strOfNums uho), .int .i64 po, .slice A1 ups.length c1, .slice A2 uhs.length c2] 32)).alloc (.cells #[.string ⟨#[]⟩, .string ⟨#[]⟩, .string ⟨#[]⟩, .int .i64 0, .slice none 0 0, .slice none 0 0] 32) = w1 at *
  obtain ⟨rb, hrb⟩ : ∃ rb, w.heap.size + 1 = rb := ⟨_, rfl⟩
  obtain ⟨ub, hub⟩ : ∃ ub, w.heap.size = ub := ⟨_, rfl⟩
  rw [hrb, hub] at NP0
  rw [hrb, hub]
  clear hrb hub
  have k0 := NP0.out.ur.cell 0; (try simp only [List.getElem?_cons_succ, List.getElem?_cons_zero] at k0)
  go_upto_region 2 with (go_at_call 65; refine (LO.out _).mono ?_; rintro _ w2 ⟨rfl, hb2⟩; have NP1 := kd (NP0.out.call hb2); have k0b := NP1.out.ur.cell 0; (try simp only [List.getElem?_cons_succ, List.getElem?_cons_zero] at k0b); have f0 := NP1.out.ur.frozen 0)
  have NP2a := NP1.out.set 0 (.string (strOfNums sc))
  simp only [List.set_cons_succ, List.set_cons_zero] at NP2a
  have NP2 := kd NP2a
  clear NP2a k0 k0b f0 hb2 NP0 NP1 LO
  generalize w2.setCell ⟨ub, 0, none⟩ (.string (strOfNums sc)) = w3 at *
  have k4 := NP2.out.ur.cell 4; (try simp only [List.getElem?_cons_succ, List.getElem?_cons_zero] at k4)
  cases h1 : fldsL ups 1 with
  | none =>
    have E := kd (N1.out h1)
    rw [h1] at NA
    clear N1 N2 NC FS FT FN NB PU L1 L2 HH TD GOOD h1
    go_upto_region 3 with (go_at_call 100; refine (NA.out _ NP2.out.m.bw).mono ?_; rintro _ w4 ⟨rfl, hb4⟩; have NP3 := kd (NP2.out.call hb4))
    clear k4 hb4 NP2 NA
    have RR := kd (show Row _ rb 32 [.string ⟨#[]⟩, .string ⟨#[]⟩, .string ⟨#[]⟩, .int .i64 0, .slice none 0 0, .slice none 0 0] from NP3.out.m.row (i := 1) rfl)
    have GB := kd (fun w9 (hg : World.grownBy _ w9 (some rb)) => mine_gb NP3.out.m (i := 1) rfl hg)
    go_wp2_with (with_reducible refine wpList_storeG rfl 32 (.tmp 2) (.tmp 26) rfl RR.out [.string ⟨#[]⟩, .string ⟨#[]⟩, .string ⟨#[]⟩, .int .i64 0, .slice none 0 0, .slice none 0 0] rfl rfl (lenU _ _ _ _ _ _ _ _ _ _ _ _) (sizeU _ _ _ _ _ _) (u_one _ _ _ _) ?_)
    intro w9 R9 G9
    have BW9 := kd (GB.out _ G9.out)
    go_wp2_with fail
    exact bodyPost_ret (results_ct rfl _ _ _ rb [.string ⟨#[]⟩, .string ⟨#[]⟩, .string ⟨#[]⟩, .int .i64 0, .slice none 0 0, .slice none 0 0] _ rfl R9.out.range Tryz.underlying32 rfl (by exact sizeU _ _ _ _ _ _)) rfl (by exact BAD.out _ E.out BW9.out)
  | some m1 =>
  rw [h1] at NA
  cases h2 : fldsL uhs 2 with
  | none =>
    have E := kd (N2.out h2)
    rw [h2] at NB
    clear N1 N2 NC FS FT FN PU L1 L2 HH TD GOOD h1 h2
    go_wp2_with fail
    refine (NA.out _ NP2.out.m.bw).mono ?_
    rintro _ w4 ⟨rfl, hb4⟩
    have NP3 := kd (NP2.out.call hb4)
    have k5 := NP3.out.ur.cell 5; (try simp only [List.getElem?_cons_succ, List.getElem?_cons_zero] at k5)
    clear k4 hb4 NP2 NA
    go_upto_region 3 with (go_at_call 100; refine (NB.out _ NP3.out.m.bw).mono ?_; rintro _ w5 ⟨rfl, hb5⟩; have NP4 := kd (NP3.out.call hb5))
    clear k5 hb5 NP3 NB
    have RR := kd (show Row _ rb 32 [.string ⟨#[]⟩, .string ⟨#[]⟩, .string ⟨#[]⟩, .int .i64 0, .slice none 0 0, .slice none 0 0] from NP4.out.m.row (i := 1) rfl)
    have GB := kd (fun w9 (hg : World.grownBy _ w9 (some rb)) => mine_gb NP4.out.m (i := 1) rfl hg)
    go_wp2_with (with_reducible refine wpList_storeG rfl 32 (.tmp 2) (.tmp 26) rfl RR.out [.string ⟨#[]⟩, .string ⟨#[]⟩, .string ⟨#[]⟩, .int .i64 0, .slice none 0 0, .slice none 0 0] rfl rfl (lenU _ _ _ _ _ _ _ _ _ _ _ _) (sizeU _ _ _ _ _ _) (u_one _ _ _ _) ?_)
    intro w9 R9 G9
    have BW9 := kd (GB.out _ G9.out)
    go_wp2_with fail
    exact bodyPost_ret (results_ct rfl _ _ _ rb [.string ⟨#[]⟩, .string ⟨#[]⟩, .string ⟨#[]⟩, .int .i64 0, .slice none 0 0, .slice none 0 0] _ rfl R9.out.range Tryz.underlying32 rfl (by exact sizeU _ _ _ _ _ _)) rfl (by exact BAD.out _ E.out BW9.out)
  | some m2 =>
  rw [h2] at NB
  go_wp2_with fail
  refine (NA.out _ NP2.out.m.bw).mono ?_
  rintro _ w4 ⟨rfl, hb4⟩
  have NP3 := kd (NP2.out.call hb4)
  have k5 := NP3.out.ur.cell 5; (try simp only [List.getElem?_cons_succ, List.getElem?_cons_zero] at k5)
  clear k4 hb4 NP2 NA
  go_wp2_with fail
  refine (NB.out _ NP3.out.m.bw).mono ?_
  rintro _ w5 ⟨rfl, hb5⟩
  have NP4 := kd (NP3.out.call hb5)
  have k1 := NP4.out.ur.cell 1; (try simp only [List.getElem?_cons_succ, List.getElem?_cons_zero] at k1)
  clear k5 hb5 NP3 NB
  cases cu : clean us with
  | false =>
    have E := kd (NC.out cu)
    rw [cu] at PU
    clear N1 N2 NC FS FT FN L1 L2 HH TD GOOD h1 h2 cu
    go_upto_region 3 with (go_at_call 101; refine (PU.out _).mono ?_; rintro _ w6 ⟨rfl, rfl⟩)
    clear k1 PU
    have RR := kd (show Row _ rb 32 [.string ⟨#[]⟩, .string ⟨#[]⟩, .string ⟨#[]⟩, .int .i64 0, .slice none 0 0, .slice none 0 0] from NP4.out.m.row (i := 1) rfl)
    have GB := kd (fun w9 (hg : World.grownBy _ w9 (some rb)) => mine_gb NP4.out.m (i := 1) rfl hg)
    go_wp2_with (with_reducible refine wpList_storeG rfl 32 (.tmp 2) (.tmp 26) rfl RR.out [.string ⟨#[]⟩, .string ⟨#[]⟩, .string ⟨#[]⟩, .int .i64 0, .slice none 0 0, .slice none 0 0] rfl rfl (lenU _ _ _ _ _ _ _ _ _ _ _ _) (sizeU _ _ _ _ _ _) (u_one _ _ _ _) ?_)
    intro w9 R9 G9
    have BW9 := kd (GB.out _ G9.out)
    go_wp2_with fail
    exact bodyPost_ret (results_ct rfl _ _ _ rb [.string ⟨#[]⟩, .string ⟨#[]⟩, .string ⟨#[]⟩, .int .i64 0, .slice none 0 0, .slice none 0 0] _ rfl R9.out.range Tryz.underlying32 rfl (by exact sizeU _ _ _ _ _ _)) rfl (by exact BAD.out _ E.out BW9.out)
  | true =>
  rw [cu] at PU
  have FM1 := kd (flds_map h1); have FM2 := kd (flds_map h2)
  have FS2 := kd (fun h => FS.out h m1 m2 h1 h2); have FT2 := kd (fun h => FT.out h m1 m2 h1 h2); have FN2 := kd (fun h h' => FN.out h h' m1 m2 h1 h2)
  clear N1 N2 NC FS FT FN h1 h2
  go_upto_region 4 with (go_at_call 101; refine (PU.out _).mono ?_; rintro _ w6 ⟨rfl, rfl⟩)
  clear k1 PU
  have k4 := NP4.out.ur.cell 4; (try simp only [List.getElem?_cons_succ, List.getElem?_cons_zero] at k4)
  go_wp2_with fail
  refine (L1.out _ NP4.out.m.bw).mono ?_
  rintro _ w6 ⟨v1, rfl, x1⟩
  rw [← FM1.out.1] at x1
  obtain ⟨D1, e1, hv1⟩ := own_slice x1.o
  subst hv1
  have NP5 := kd (NP4.out.more FM1.out.2 x1)
  have k4b := NP5.out.ur.cell 4; (try simp only [List.getElem?_cons_succ, List.getElem?_cons_zero] at k4b)
  have f4 := NP5.out.ur.frozen 4
  have NP6a := NP5.out.set 4 (.slice D1 ups.length e1)
  simp only [List.set_cons_succ, List.set_cons_zero] at NP6a
  have NP6 := kd NP6a
  clear NP6a k4 x1 NP4 L1
  go_upto_region 5 with (fail)
  clear k4b f4 NP5
  generalize w6.setCell ⟨ub, 4, none⟩ (.slice D1 ups.length e1) = w7 at *
  have k5 := NP6.out.ur.cell 5; (try simp only [List.getElem?_cons_succ, List.getElem?_cons_zero] at k5)
  go_wp2_with fail
  refine (L2.out _ NP6.out.m.bw).mono ?_
  rintro _ w8 ⟨v2, rfl, x2⟩
  rw [← FM2.out.1] at x2
  obtain ⟨D2, e2, hv2⟩ := own_slice x2.o
  subst hv2
  have NP7 := kd (NP6.out.more FM2.out.2 x2)
  have k5b := NP7.out.ur.cell 5; (try simp only [List.getElem?_cons_succ, List.getElem?_cons_zero] at k5b)
  have f5 := NP7.out.ur.frozen 5
  have NP8a := NP7.out.set 5 (.slice D2 uhs.length e2)
  simp only [List.set_cons_succ, List.set_cons_zero] at NP8a
  have NP8 := kd NP8a
  clear NP8a k5 x2 NP6 L2
  go_upto_region 6 with (fail)
  clear k5b f5 NP7
  generalize w8.setCell ⟨ub, 5, none⟩ (.slice D2 uhs.length e2) = w9 at *
  obtain ⟨d1, hd1⟩ : ∃ d1, ups.length = d1 := ⟨_, rfl⟩
  obtain ⟨d2, hd2⟩ : ∃ d2, uhs.length = d2 := ⟨_, rfl⟩
  have HD2 := kd hd2
  rw [hd1, hd2] at NP8
  rw [hd1, hd2]
  clear hd1 hd2 FM1 FM2
  have c0 := NP8.out.ur.cell 0; (try simp only [List.getElem?_cons_succ, List.getElem?_cons_zero] at c0)
  have c1 := NP8.out.ur.cell 1; (try simp only [List.getElem?_cons_succ, List.getElem?_cons_zero] at c1)
  have c2 := NP8.out.ur.cell 2; (try simp only [List.getElem?_cons_succ, List.getElem?_cons_zero] at c2)
  have c3 := NP8.out.ur.cell 3; (try simp only [List.getElem?_cons_succ, List.getElem?_cons_zero] at c3)
  have c5 := NP8.out.ur.cell 5; (try simp only [List.getElem?_cons_succ, List.getElem?_cons_zero] at c5)
  have Q1 := lit_beq HSB.out [115, 105, 112]
  have Q2 := lit_beq HSB.out [115, 105, 112, 115]
  have Q3 := lit_beq HSB.out [116, 101, 108]
  rw [show bl [115, 105, 112] = SIPT from rfl] at Q1
  rw [show bl [115, 105, 112, 115] = SIPST from rfl] at Q2
  rw [show bl [116, 101, 108] = TELT from rfl] at Q3
  have HQ1 := kd Q1; have HQ2 := kd Q2; have HQ3 := kd Q3
  clear Q1 Q2 Q3
  go_upto_if 37 with (fail)
  go_cut [37] (fun v wx => v = .bool (decide (sc = SIPT ∨ sc = SIPST)) ∧ wx = w9)
  case first =>
    by_cases h1 : sc = SIPT
    · have q1 : ((strOfNums sc).toList == [115, 105, 112]) = true := HQ1.out.trans (by rw [h1]; rfl)
      rw [q1]
      have d1 := kd (decide_eq_true (p := sc = SIPT ∨ sc = SIPST) (.inl h1))
      clear h1
      go_wp2_with fail
      go_meet
      exact ⟨congrArg Value.bool d1.out.symm, rfl⟩
    · have q1 : ((strOfNums sc).toList == [115, 105, 112]) = false := HQ1.out.trans (by simpa using fun e => h1 e.symm)
      rw [q1]
      by_cases h2 : sc = SIPST
      · have q2 : ((strOfNums sc).toList == [115, 105, 112, 115]) = true := HQ2.out.trans (by rw [h2]; rfl)
        have d1 := kd (decide_eq_true (p := sc = SIPT ∨ sc = SIPST) (.inr h2))
        clear h1 h2
        go_wp2_with fail
        go_meet
        exact ⟨congrArg Value.bool d1.out.symm, rfl⟩
      · have q2 : ((strOfNums sc).toList == [115, 105, 112, 115]) = false := HQ2.out.trans (by simpa using fun e => h2 e.symm)
        have d1 := kd (decide_eq_false (p := sc = SIPT ∨ sc = SIPST) (by rintro (h | h); exact h1 h; exact h2 h))
        clear h1 h2
        go_wp2_with fail
        go_meet
        exact ⟨congrArg Value.bool d1.out.symm, rfl⟩
  case rest =>
  first | (rename_i KK hKK; obtain ⟨rfl, rfl⟩ := hcut; refine hKK _ _ ?_; clear hKK KK) | obtain ⟨rfl, rfl⟩ := hcut
  by_cases hsip : sc = SIPT ∨ sc = SIPST
  · rw [decide_eq_true hsip]
    have F := kd (FS2.out hsip)
    clear FS2 FT2 FN2 hsip TD HQ1 HQ2 HQ3
    cases hh : hostL uho with
    | none =>
      rw [hh] at HH F
      have E := kd (show R = none by rw [F.out]; rfl)
      clear F GOOD hh
      unfold hostV at HH
      go_upto_region 11 with (go_at_call 21; refine (HH.out _).mono ?_; rintro _ w10 ⟨rfl, hb10⟩; have NP9 := kd (NP8.out.call hb10))
      clear c0 c1 c2 c3 c5 hb10 NP8 HH
      have RR := kd (show Row _ rb 32 [.string ⟨#[]⟩, .string ⟨#[]⟩, .string ⟨#[]⟩, .int .i64 0, .slice none 0 0, .slice none 0 0] from NP9.out.m.row (i := 1) rfl)
      have GB := kd (fun w9 (hg : World.grownBy _ w9 (some rb)) => mine_gb NP9.out.m (i := 1) rfl hg)
      go_wp2_with (with_reducible refine wpList_storeG rfl 32 (.tmp 2) (.tmp 58) rfl RR.out [.string ⟨#[]⟩, .string ⟨#[]⟩, .string ⟨#[]⟩, .int .i64 0, .slice none 0 0, .slice none 0 0] rfl rfl (lenU _ _ _ _ _ _ _ _ _ _ _ _) (sizeU _ _ _ _ _ _) (u_one _ _ _ _) ?_)
      intro w9 R9 G9
      have BW9 := kd (GB.out _ G9.out)
      go_wp2_with fail
      exact bodyPost_ret (results_ct rfl _ _ _ rb [.string ⟨#[]⟩, .string ⟨#[]⟩, .string ⟨#[]⟩, .int .i64 0, .slice none 0 0, .slice none 0 0] _ rfl R9.out.range Tryz.underlying32 rfl (by exact sizeU _ _ _ _ _ _)) rfl (by exact BAD.out _ E.out BW9.out)
    | some h =>
      rw [hh] at HH F
      clear hh
      unfold hostV at HH
      by_cases p0 : po < 0
      · have q0 : decide (po < 0) = true := by simp [p0]
        have E := kd (show R = none by rw [F.out, decide_eq_false (show ¬ (0 ≤ po) by omega)]; simp)
        clear F GOOD p0
        go_upto_region 11 with (go_at_call 21; refine (HH.out _).mono ?_; rintro _ w10 ⟨rfl, hb10⟩; have NP9 := kd (NP8.out.call hb10); have c3b := NP9.out.ur.cell 3; (try simp only [List.getElem?_cons_succ, List.getElem?_cons_zero] at c3b))
        clear c0 c1 c2 c3 c5 c3b hb10 NP8 HH
        have RR := kd (show Row _ rb 32 [.string ⟨#[]⟩, .string ⟨#[]⟩, .string ⟨#[]⟩, .int .i64 0, .slice none 0 0, .slice none 0 0] from NP9.out.m.row (i := 1) rfl)
        have GB := kd (fun w9 (hg : World.grownBy _ w9 (some rb)) => mine_gb NP9.out.m (i := 1) rfl hg)
        go_wp2_with (with_reducible refine wpList_storeG rfl 32 (.tmp 2) (.tmp 58) rfl RR.out [.string ⟨#[]⟩, .string ⟨#[]⟩, .string ⟨#[]⟩, .int .i64 0, .slice none 0 0, .slice none 0 0] rfl rfl (lenU _ _ _ _ _ _ _ _ _ _ _ _) (sizeU _ _ _ _ _ _) (u_one _ _ _ _) ?_)
        intro w9 R9 G9
        have BW9 := kd (GB.out _ G9.out)
        go_wp2_with fail
        exact bodyPost_ret (results_ct rfl _ _ _ rb [.string ⟨#[]⟩, .string ⟨#[]⟩, .string ⟨#[]⟩, .int .i64 0, .slice none 0 0, .slice none 0 0] _ rfl R9.out.range Tryz.underlying32 rfl (by exact sizeU _ _ _ _ _ _)) rfl (by exact BAD.out _ E.out BW9.out)
      have q0 : decide (po < 0) = false := by simpa using p0
      by_cases p1 : 65535 < po
      · have q1 : decide (65535 < po) = true := by simp [p1]
        have E := kd (show R = none by rw [F.out, decide_eq_false (show ¬ (po ≤ 65535) by omega)]; simp)
        clear F GOOD p0 p1
        go_upto_region 11 with (go_at_call 21; refine (HH.out _).mono ?_; rintro _ w10 ⟨rfl, hb10⟩; have NP9 := kd (NP8.out.call hb10); have c3b := NP9.out.ur.cell 3; (try simp only [List.getElem?_cons_succ, List.getElem?_cons_zero] at c3b))
        clear c0 c1 c2 c3 c5 c3b hb10 NP8 HH
        have RR := kd (show Row _ rb 32 [.string ⟨#[]⟩, .string ⟨#[]⟩, .string ⟨#[]⟩, .int .i64 0, .slice none 0 0, .slice none 0 0] from NP9.out.m.row (i := 1) rfl)
        have GB := kd (fun w9 (hg : World.grownBy _ w9 (some rb)) => mine_gb NP9.out.m (i := 1) rfl hg)
        go_wp2_with (with_reducible refine wpList_storeG rfl 32 (.tmp 2) (.tmp 58) rfl RR.out [.string ⟨#[]⟩, .string ⟨#[]⟩, .string ⟨#[]⟩, .int .i64 0, .slice none 0 0, .slice none 0 0] rfl rfl (lenU _ _ _ _ _ _ _ _ _ _ _ _) (sizeU _ _ _ _ _ _) (u_one _ _ _ _) ?_)
        intro w9 R9 G9
        have BW9 := kd (GB.out _ G9.out)
        go_wp2_with fail
        exact bodyPost_ret (results_ct rfl _ _ _ rb [.string ⟨#[]⟩, .string ⟨#[]⟩, .string ⟨#[]⟩, .int .i64 0, .slice none 0 0, .slice none 0 0] _ rfl R9.out.range Tryz.underlying32 rfl (by exact sizeU _ _ _ _ _ _)) rfl (by exact BAD.out _ E.out BW9.out)
      have q1 : decide (65535 < po) = false := by simpa using p1
      have E := kd (show R = some ⟨sc, us, h, po, m1, m2⟩ by rw [F.out, decide_eq_true (show 0 ≤ po by omega), decide_eq_true (show po ≤ 65535 by omega), cu]; rfl)
      clear F BAD p0 p1
      go_upto_region 12 with (go_at_call 21; refine (HH.out _).mono ?_; rintro _ w10 ⟨rfl, hb10⟩; have NP9 := kd (NP8.out.call hb10); have c3b := NP9.out.ur.cell 3; (try simp only [List.getElem?_cons_succ, List.getElem?_cons_zero] at c3b))
      have c2b := NP9.out.ur.cell 2; (try simp only [List.getElem?_cons_succ, List.getElem?_cons_zero] at c2b)
      have f2 := NP9.out.ur.frozen 2
      have NP10a := NP9.out.set 2 (.string (strOfNums h))
      simp only [List.set_cons_succ, List.set_cons_zero] at NP10a
      have NP10 := kd NP10a
      clear NP10a c0 c1 c2 c3 c5 c3b hb10 NP8 HH
      go_upto_region 13 with (fail)
      clear c2b f2 NP9
      generalize w10.setCell ⟨ub, 2, none⟩ (.string (strOfNums h)) = w11 at *
      have RR := kd (show Row _ rb 32 [.string ⟨#[]⟩, .string ⟨#[]⟩, .string ⟨#[]⟩, .int .i64 0, .slice none 0 0, .slice none 0 0] from NP10.out.m.row (i := 1) rfl)
      have UR := kd NP10.out.ur
      have GB := kd (fun w9 (hg : World.grownBy _ w9 (some rb)) => mine_gb NP10.out.m (i := 1) rfl hg)
      have X1 := kd (NP10.out.v (.slice D1 d1 e1, m1) (List.mem_cons_of_mem _ (List.mem_cons_self ..)))
      have X2 := kd (NP10.out.v (.slice D2 d2 e2, m2) (List.mem_cons_self ..))
      go_wp2_with (first
        | (with_reducible refine wpList_loadR rfl 32 (.tmp 1) rfl UR.out rfl Tryz.underlying32 rfl (sizeU _ _ _ _ _ _) ?_)
        | (with_reducible refine wpList_storeG rfl 32 (.tmp 2) (.tmp 61) rfl RR.out [.string (strOfNums sc), .string (strOfNums us), .string (strOfNums h), .int .i64 po, .slice D1 d1 e1, .slice D2 d2 e2] rfl rfl (lenU _ _ _ _ _ _ _ _ _ _ _ _) (sizeU _ _ _ _ _ _) (u_one _ _ _ _) ?_; intro w9 R9 G9))
      have BW9 := kd (GB.out _ G9.out)
      have W1 := kd (X1.out.put RR.out (by decide) BW9.out G9.out)
      have W2 := kd (X2.out.put RR.out (by decide) BW9.out G9.out)
      exact bodyPost_ret (results_ct rfl _ _ _ rb [.string (strOfNums sc), .string (strOfNums us), .string (strOfNums h), .int .i64 po, .slice D1 d1 e1, .slice D2 d2 e2] _ rfl R9.out.range Tryz.underlying32 rfl (by exact sizeU _ _ _ _ _ _)) rfl (by exact GOOD.out _ _ _ _ _ _ _ _ _ E.out W1.out W2.out)
  · rw [decide_eq_false hsip]
    by_cases htel : sc = TELT
    · have q3 : ((strOfNums sc).toList == [116, 101, 108]) = true := HQ3.out.trans (by rw [htel]; rfl)
      have F := kd (FT2.out htel)
      clear FS2 FT2 FN2 hsip HQ1 HQ2 HQ3 HH htel
      cases uho with
      | cons a r =>
        have E := kd (show R = none from F.out)
        have EH2 : ((strOfNums (a :: r)).toList == []) = false := EH
        clear F GOOD EH TD
        generalize strOfNums (a :: r) = sho at *
        go_upto_region 17 with (fail)
        clear c0 c1 c2 c3 c5
        have RR := kd (show Row _ rb 32 [.string ⟨#[]⟩, .string ⟨#[]⟩, .string ⟨#[]⟩, .int .i64 0, .slice none 0 0, .slice none 0 0] from NP8.out.m.row (i := 1) rfl)
        have GB := kd (fun w9 (hg : World.grownBy _ w9 (some rb)) => mine_gb NP8.out.m (i := 1) rfl hg)
        go_wp2_with (with_reducible refine wpList_storeG rfl 32 (.tmp 2) (.tmp 84) rfl RR.out [.string ⟨#[]⟩, .string ⟨#[]⟩, .string ⟨#[]⟩, .int .i64 0, .slice none 0 0, .slice none 0 0] rfl rfl (lenU _ _ _ _ _ _ _ _ _ _ _ _) (sizeU _ _ _ _ _ _) (u_one _ _ _ _) ?_)
        intro w9 R9 G9
        have BW9 := kd (GB.out _ G9.out)
        go_wp2_with fail
        exact bodyPost_ret (results_ct rfl _ _ _ rb [.string ⟨#[]⟩, .string ⟨#[]⟩, .string ⟨#[]⟩, .int .i64 0, .slice none 0 0, .slice none 0 0] _ rfl R9.out.range Tryz.underlying32 rfl (by exact sizeU _ _ _ _ _ _)) rfl (by exact BAD.out _ E.out BW9.out)
      | nil =>
      have EH2 : ((strOfNums []).toList == []) = true := EH
      by_cases p0 : po = 0
      · subst p0
        by_cases l0 : d2 = 0
        · cases hd : dialedL us with
          | false =>
            rw [hd] at TD F
            have E := kd (show R = none by rw [F.out]; simp)
            have z1 : ((d2 : Int) == 0) = true := by simp [l0]
            clear F GOOD EH hd
            go_upto_region 17 with (go_at_call 103; refine (TD.out _).mono ?_; rintro _ w10 ⟨rfl, hb10⟩; have NP9 := kd (NP8.out.call hb10))
            clear c0 c1 c2 c3 c5 hb10 NP8
            have RR := kd (show Row _ rb 32 [.string ⟨#[]⟩, .string ⟨#[]⟩, .string ⟨#[]⟩, .int .i64 0, .slice none 0 0, .slice none 0 0] from NP9.out.m.row (i := 1) rfl)
            have GB := kd (fun w9 (hg : World.grownBy _ w9 (some rb)) => mine_gb NP9.out.m (i := 1) rfl hg)
            go_wp2_with (with_reducible refine wpList_storeG rfl 32 (.tmp 2) (.tmp 84) rfl RR.out [.string ⟨#[]⟩, .string ⟨#[]⟩, .string ⟨#[]⟩, .int .i64 0, .slice none 0 0, .slice none 0 0] rfl rfl (lenU _ _ _ _ _ _ _ _ _ _ _ _) (sizeU _ _ _ _ _ _) (u_one _ _ _ _) ?_)
            intro w9 R9 G9
            have BW9 := kd (GB.out _ G9.out)
            go_wp2_with fail
            exact bodyPost_ret (results_ct rfl _ _ _ rb [.string ⟨#[]⟩, .string ⟨#[]⟩, .string ⟨#[]⟩, .int .i64 0, .slice none 0 0, .slice none 0 0] _ rfl R9.out.range Tryz.underlying32 rfl (by exact sizeU _ _ _ _ _ _)) rfl (by exact BAD.out _ E.out BW9.out)
          | true =>
            rw [hd] at TD F
            have E := kd (show R = some ⟨sc, us, [], 0, m1, m2⟩ by rw [F.out, HD2.out, decide_eq_true l0]; rfl)
            have z1 : ((d2 : Int) == 0) = true := by simp [l0]
            clear F BAD EH hd
            go_upto_region 16 with (go_at_call 103; refine (TD.out _).mono ?_; rintro _ w10 ⟨rfl, hb10⟩; have NP9 := kd (NP8.out.call hb10))
            clear c0 c1 c2 c3 c5 hb10 NP8
            have RR := kd (show Row _ rb 32 [.string ⟨#[]⟩, .string ⟨#[]⟩, .string ⟨#[]⟩, .int .i64 0, .slice none 0 0, .slice none 0 0] from NP9.out.m.row (i := 1) rfl)
            have UR := kd NP9.out.ur
            have GB := kd (fun w9 (hg : World.grownBy _ w9 (some rb)) => mine_gb NP9.out.m (i := 1) rfl hg)
            have X1 := kd (NP9.out.v (.slice D1 d1 e1, m1) (List.mem_cons_of_mem _ (List.mem_cons_self ..)))
            have X2 := kd (NP9.out.v (.slice D2 d2 e2, m2) (List.mem_cons_self ..))
            go_wp2_with (first
              | (with_reducible refine wpList_loadR rfl 32 (.tmp 1) rfl UR.out rfl Tryz.underlying32 rfl (sizeU _ _ _ _ _ _) ?_)
              | (with_reducible refine wpList_storeG rfl 32 (.tmp 2) (.tmp 83) rfl RR.out [.string (strOfNums sc), .string (strOfNums us), .string (strOfNums []), .int .i64 0, .slice D1 d1 e1, .slice D2 d2 e2] rfl rfl (lenU _ _ _ _ _ _ _ _ _ _ _ _) (sizeU _ _ _ _ _ _) (u_one _ _ _ _) ?_; intro w9 R9 G9))
            have BW9 := kd (GB.out _ G9.out)
            have W1 := kd (X1.out.put RR.out (by decide) BW9.out G9.out)
            have W2 := kd (X2.out.put RR.out (by decide) BW9.out G9.out)
            exact bodyPost_ret (results_ct rfl _ _ _ rb [.string (strOfNums sc), .string (strOfNums us), .string (strOfNums []), .int .i64 0, .slice D1 d1 e1, .slice D2 d2 e2] _ rfl R9.out.range Tryz.underlying32 rfl (by exact sizeU _ _ _ _ _ _)) rfl (by exact GOOD.out _ _ _ _ _ _ _ _ _ E.out W1.out W2.out)
        · have E := kd (show R = none by rw [F.out, HD2.out, decide_eq_false l0]; simp)
          have z1 : ((d2 : Int) == 0) = false := by simpa using l0
          clear F GOOD EH TD
          go_upto_region 17 with (fail)
          clear c0 c1 c2 c3 c5
          have RR := kd (show Row _ rb 32 [.string ⟨#[]⟩, .string ⟨#[]⟩, .string ⟨#[]⟩, .int .i64 0, .slice none 0 0, .slice none 0 0] from NP8.out.m.row (i := 1) rfl)
          have GB := kd (fun w9 (hg : World.grownBy _ w9 (some rb)) => mine_gb NP8.out.m (i := 1) rfl hg)
          go_wp2_with (with_reducible refine wpList_storeG rfl 32 (.tmp 2) (.tmp 84) rfl RR.out [.string ⟨#[]⟩, .string ⟨#[]⟩, .string ⟨#[]⟩, .int .i64 0, .slice none 0 0, .slice none 0 0] rfl rfl (lenU _ _ _ _ _ _ _ _ _ _ _ _) (sizeU _ _ _ _ _ _) (u_one _ _ _ _) ?_)
          intro w9 R9 G9
          have BW9 := kd (GB.out _ G9.out)
          go_wp2_with fail
          exact bodyPost_ret (results_ct rfl _ _ _ rb [.string ⟨#[]⟩, .string ⟨#[]⟩, .string ⟨#[]⟩, .int .i64 0, .slice none 0 0, .slice none 0 0] _ rfl R9.out.range Tryz.underlying32 rfl (by exact sizeU _ _ _ _ _ _)) rfl (by exact BAD.out _ E.out BW9.out)
      · have E := kd (show R = none by rw [F.out, decide_eq_false p0]; simp)
        have z1 : (po == 0) = false := by simpa using p0
        clear F GOOD EH TD
        go_upto_region 17 with (fail)
        clear c0 c1 c2 c3 c5
        have RR := kd (show Row _ rb 32 [.string ⟨#[]⟩, .string ⟨#[]⟩, .string ⟨#[]⟩, .int .i64 0, .slice none 0 0, .slice none 0 0] from NP8.out.m.row (i := 1) rfl)
        have GB := kd (fun w9 (hg : World.grownBy _ w9 (some rb)) => mine_gb NP8.out.m (i := 1) rfl hg)
        go_wp2_with (with_reducible refine wpList_storeG rfl 32 (.tmp 2) (.tmp 84) rfl RR.out [.string ⟨#[]⟩, .string ⟨#[]⟩, .string ⟨#[]⟩, .int .i64 0, .slice none 0 0, .slice none 0 0] rfl rfl (lenU _ _ _ _ _ _ _ _ _ _ _ _) (sizeU _ _ _ _ _ _) (u_one _ _ _ _) ?_)
        intro w9 R9 G9
        have BW9 := kd (GB.out _ G9.out)
        go_wp2_with fail
        exact bodyPost_ret (results_ct rfl _ _ _ rb [.string ⟨#[]⟩, .string ⟨#[]⟩, .string ⟨#[]⟩, .int .i64 0, .slice none 0 0, .slice none 0 0] _ rfl R9.out.range Tryz.underlying32 rfl (by exact sizeU _ _ _ _ _ _)) rfl (by exact BAD.out _ E.out BW9.out)
    · have q3 : ((strOfNums sc).toList == [116, 101, 108]) = false := HQ3.out.trans (by simpa using fun e => htel e.symm)
      have E := kd (show R = none by rw [FN2.out hsip htel]; rfl)
      clear FS2 FT2 FN2 hsip HQ1 HQ2 HQ3 HH TD htel GOOD
      go_upto_region 17 with (fail)
      clear c0 c1 c2 c3 c5 q3
      have RR := kd (show Row _ rb 32 [.string ⟨#[]⟩, .string ⟨#[]⟩, .string ⟨#[]⟩, .int .i64 0, .slice none 0 0, .slice none 0 0] from NP8.out.m.row (i := 1) rfl)
      have GB := kd (fun w9 (hg : World.grownBy _ w9 (some rb)) => mine_gb NP8.out.m (i := 1) rfl hg)
      go_wp2_with (with_reducible refine wpList_storeG rfl 32 (.tmp 2) (.tmp 84) rfl RR.out [.string ⟨#[]⟩, .string ⟨#[]⟩, .string ⟨#[]⟩, .int .i64 0, .slice none 0 0, .slice none 0 0] rfl rfl (lenU _ _ _ _ _ _ _ _ _ _ _ _) (sizeU _ _ _ _ _ _) (u_one _ _ _ _) ?_)
      intro w9 R9 G9
      have BW9 := kd (GB.out _ G9.out)
      go_wp2_with fail
      exact bodyPost_ret (results_ct rfl _ _ _ rb [.string ⟨#[]⟩, .string ⟨#[]⟩, .string ⟨#[]⟩, .int .i64 0, .slice none 0 0, .slice none 0 0] _ rfl R9.out.range Tryz.underlying32 rfl (by exact sizeU _ _ _ _ _ _)) rfl (by exact BAD.out _ E.out BW9.out)

structure RArg (w : World) (u : Uri) (A1 A2 : Option Addr) (c1 c2 : Nat) : Prop where
  a : UArg w u A1 A2
  k1 : u.ps.length ≤ c1
  k2 : u.hs.length ≤ c2
  po : -9223372036854775808 ≤ u.po ∧ u.po < 9223372036854775808
  q1 : u.ps.length ≤ 1000000
  q2 : u.hs.length ≤ 1000000
theorem RArg.step {w w' : World} {u : Uri} {A1 A2 : Option Addr} {c1 c2 : Nat} (h : RArg w u A1 A2 c1 c2) (hb : Below w.heap.size w w') : RArg w' u A1 A2 c1 c2 := { h with a := h.a.step hb }
theorem rnorm_good {u n : Uri} (h : normL u = some n) (A1 A2 : Option Addr) (c1 c2 : Nat) (w : World) (H : RArg w u A1 A2 c1 c2) :
    Calls Tryz.prog 34 #[uS u A1 A2 c1 c2] w fun e w' => ∃ B1 B2 d1 d2, e = .returned (.tuple #[uS n B1 B2 d1 d2, .int .u8 0]) ∧ Below w.heap.size w w' ∧ UArg w' n B1 B2 := by
  refine (rnormal_any u A1 A2 c1 c2 w H.a H.k1 H.k2 H.po H.q1 H.q2).mono ?_
  intro e w' hr
  rw [h] at hr
  obtain ⟨v1, v2, rfl, h1, h2⟩ := hr
  have hb := h1.bw
  obtain ⟨B1, d1, rfl, r1⟩ := h1.rdw
  obtain ⟨B2, d2, rfl, r2⟩ := h2.rdw
  exact ⟨B1, B2, d1, d2, rfl, hb, uarg_norm H.a h r1 r2⟩
theorem rnorm_bad {u : Uri} (h : normL u = none) (A1 A2 : Option Addr) (c1 c2 : Nat) (w : World) (H : RArg w u A1 A2 c1 c2) :
    Calls Tryz.prog 34 #[uS u A1 A2 c1 c2] w fun e w' => e = .returned (.tuple #[.agg #[.string ⟨#[]⟩, .string ⟨#[]⟩, .string ⟨#[]⟩, .int .i64 0, .slice none 0 0, .slice none 0 0], .int .u8 2]) ∧ Below w.heap.size w w' := by
  refine (rnormal_any u A1 A2 c1 c2 w H.a H.k1 H.k2 H.po H.q1 H.q2).mono ?_
  intro e w' hr
  rw [h] at hr
  exact hr
theorem print_tel {n : Uri} (h : UriN n) (ht : n.sc = TELT) : [116, 101, 108, 58] ++ n.us ++ wrT 1 [59] [59] n.ps = printN n := by
  rcases h.k with ⟨hs, _⟩ | ⟨_, k2, k3, k4, _⟩
  · rw [ht] at hs; exact absurd hs (by decide)
  · unfold printN
    rw [ht, if_pos rfl, k2, k3, if_pos rfl, k4, wrT_ps]
    simp [TELT, hdsT]
theorem print_sip {n : Uri} (h : UriN n) (ht : n.sc ≠ TELT) : (n.sc ++ [58] ++ (if n.us = [] then [] else escT 0 n.us ++ [64]) ++ n.ho ++ (if n.po = 0 then [] else [58] ++ decL n.po)) ++ wrT 1 [59] [59] n.ps ++ wrT 2 [63] [38] n.hs = printN n := by
  unfold printN
  rw [if_neg ht, wrT_ps, wrT_hs [63] n.hs true (fun p hp => by
    have := (h.hs.f p hp).h
    cases hh : p.h with
    | true => rfl
    | false => exact absurd (.inl ⟨rfl, hh⟩) this) rfl]
theorem wrT_len (k : Int) (m2 : List Int) (hm2 : m2.length ≤ 10) : ∀ (l : List Pm) (m1 : List Int), m1.length ≤ 10 → (∀ p ∈ l, pmSz p) → (wrT k m1 m2 l).length ≤ l.length * 25000000
  | [], _, _, _ => by simp [wrT]
  | p :: r, m1, h1, h => by
    have ih := wrT_len k m2 hm2 r m2 hm2 (fun q hq => h q (List.mem_cons_of_mem _ hq))
    have hp := h p (List.mem_cons_self ..)
    have e1 := esc3 k p.n
    have e2 := esc3 k p.v
    have n1 := hp.2.2.1
    have n2 := hp.2.2.2
    unfold wrT
    rw [List.length_append, List.length_append, List.length_append, List.length_cons]
    split
    · rw [List.length_append, List.length_singleton]; omega
    · rw [List.length_nil]; omega
theorem rprint_any (u : Uri) (A1 A2 : Option Addr) (c1 c2 : Nat) (w : World) (H : RArg w u A1 A2 c1 c2) :
    Calls Tryz.prog 35 #[uS u A1 A2 c1 c2] w (PriP w (printU u)) := by
  have HU := kd H
  have B1 := kd ((Below.refl w.heap.size w).alloc (Nat.le_refl _) (.cells ([.string (strOfNums u.sc), .string (strOfNums u.us), .string (strOfNums u.ho), .int .i64 u.po, .slice A1 u.ps.length c1, .slice A2 u.hs.length c2] : List Value).toArray 32))
  have R1 := kd (Row.new w 32 [.string (strOfNums u.sc), .string (strOfNums u.us), .string (strOfNums u.ho), .int .i64 u.po, .slice A1 u.ps.length c1, .slice A2 u.hs.length c2])
  have UB := kd H.a.by_
  clear H
  cases hn : normL u with
  | none =>
    have NB := kd (fun w' (hb : Below w.heap.size w w') => rnorm_bad hn A1 A2 c1 c2 w' (HU.out.step hb))
    have E := kd (show printU u = none by unfold printU; rw [hn]; rfl)
    generalize printU u = R at *
    clear hn
    unfold uS at NB ⊢
    go_enter Tryz.func35, Tryz.ntmps35
    go_upto_region 1 with (fail)
    generalize w.alloc (.cells #[.string (strOfNums u.sc), .string (strOfNums u.us), .string (strOfNums u.ho), .int .i64 u.po, .slice A1 u.ps.length c1, .slice A2 u.hs.length c2] 32) = w1 at *
    go_wp2_with (with_reducible refine wpList_loadR rfl 32 (.tmp 1) rfl R1.out rfl Tryz.underlying32 rfl (sizeU _ _ _ _ _ _) ?_)
    refine (NB.out w1 B1.out).mono ?_
    rintro _ w2 ⟨rfl, hb2⟩
    have B2 := kd (bthen B1.out hb2)
    clear NB hb2
    go_upto_region 2 with (with_reducible refine wpList_storeN rfl 32 (.tmp 4) (.tmp 10) rfl [.string ⟨#[]⟩, .string ⟨#[]⟩, .string ⟨#[]⟩, .int .i64 0, .slice none 0 0, .slice none 0 0] [.string ⟨#[]⟩, .string ⟨#[]⟩, .string ⟨#[]⟩, .int .i64 0, .slice none 0 0, .slice none 0 0] rfl rfl (lenU _ _ _ _ _ _ _ _ _ _ _ _) (sizeU _ _ _ _ _ _) (u_one _ _ _ _) ?_; intro w3 R3 B3)
    have B4 := kd (bthen B2.out B3.out)
    go_wp2_with fail
    go_ret2
    exact ⟨B4.out, by rw [E.out]; rfl⟩
  | some n =>
    have NG := kd (fun w' (hb : Below w.heap.size w w') => rnorm_good hn A1 A2 c1 c2 w' (HU.out.step hb))
    have E := kd (show printU u = some (printN n) by unfold printU; rw [hn]; rfl)
    have UN := kd (norm_ok UB.out hn)
    generalize printU u = R at *
    clear hn
    unfold uS at NG ⊢
    go_enter Tryz.func35, Tryz.ntmps35
    go_upto_region 1 with (fail)
    generalize w.alloc (.cells #[.string (strOfNums u.sc), .string (strOfNums u.us), .string (strOfNums u.ho), .int .i64 u.po, .slice A1 u.ps.length c1, .slice A2 u.hs.length c2] 32) = w1 at *
    go_wp2_with (with_reducible refine wpList_loadR rfl 32 (.tmp 1) rfl R1.out rfl Tryz.underlying32 rfl (sizeU _ _ _ _ _ _) ?_)
    refine (NG.out w1 B1.out).mono ?_
    rintro _ w2 ⟨D1, D2, d1, d2, rfl, hb2, ua⟩
    have UA := kd ua
    have B2 := kd (bthen B1.out hb2)
    clear NG hb2 ua
    go_upto_region 2 with (with_reducible refine wpList_storeN rfl 32 (.tmp 4) (.tmp 10) rfl [.string ⟨#[]⟩, .string ⟨#[]⟩, .string ⟨#[]⟩, .int .i64 0, .slice none 0 0, .slice none 0 0] [.string (strOfNums n.sc), .string (strOfNums n.us), .string (strOfNums n.ho), .int .i64 n.po, .slice D1 n.ps.length d1, .slice D2 n.hs.length d2] rfl rfl (lenU _ _ _ _ _ _ _ _ _ _ _ _) (sizeU _ _ _ _ _ _) (u_one _ _ _ _) ?_; intro w3 R3 B3)
    have B4 := kd (bthen B2.out B3.out)
    replace UA := kd (UA.out.step B3.out)
    generalize w2.heap.size = g at *
    clear B2 B3 R1 B1 HU
    have WP := kd (fun w' (hb : Below w3.heap.size w3 w') => rwrite_any D1 _ d1 n.ps ⟨#[59]⟩ ⟨#[59]⟩ 1 w' ((UA.out.step hb).r1) rfl (by have := UN.out.ps.len; omega) (by decide) (by decide) UA.out.s1)
    have WH := kd (fun w' (hb : Below w3.heap.size w3 w') => rwrite_any D2 _ d2 n.hs ⟨#[63]⟩ ⟨#[38]⟩ 2 w' ((UA.out.step hb).r2) rfl (by have := UN.out.hs.len; omega) (by decide) (by decide) UA.out.s2)
    simp only [show byteL ⟨#[59]⟩ = [59] by rfl, show byteL ⟨#[63]⟩ = [63] by rfl, show byteL ⟨#[38]⟩ = [38] by rfl] at WP WH
    have LP1 := wrT_len 1 [59] (by decide) n.ps [59] (by decide) UA.out.s1
    have LH1 := wrT_len 2 [38] (by decide) n.hs [63] (by decide) UA.out.s2
    have l16 := UN.out.ps.len
    have h16 := UN.out.hs.len
    have n1 := UA.out.n1; have n2 := UA.out.n2; have n3 := UA.out.n3
    have SS := num_size n.sc; have SU := num_size n.us; have SH := num_size n.ho
    have SP := num_size (wrT 1 [59] [59] n.ps); have SHH := num_size (wrT 2 [63] [38] n.hs)
    have SCB := kd (show By n.sc from UA.out.by_.sc)
    have Q3 := lit_beq SCB.out [116, 101, 108]
    rw [show bl [116, 101, 108] = TELT from rfl] at Q3
    have Q3H := kd Q3
    clear Q3
    have k0 : w3.cell? ⟨g, 0, none⟩ = some (.string (strOfNums n.sc)) := R3.out.cell 0
    have k1 : w3.cell? ⟨g, 1, none⟩ = some (.string (strOfNums n.us)) := R3.out.cell 1
    have k2 : w3.cell? ⟨g, 2, none⟩ = some (.string (strOfNums n.ho)) := R3.out.cell 2
    have k3 : w3.cell? ⟨g, 3, none⟩ = some (.int .i64 n.po) := R3.out.cell 3
    have k4 : w3.cell? ⟨g, 4, none⟩ = some (.slice D1 n.ps.length d1) := R3.out.cell 4
    have k5 : w3.cell? ⟨g, 5, none⟩ = some (.slice D2 n.hs.length d2) := R3.out.cell 5
    by_cases htel : n.sc = TELT
    · have q3 : ((strOfNums n.sc).toList == [116, 101, 108]) = true := Q3H.out.trans (by rw [htel]; rfl)
      have PT := kd (print_tel UN.out htel)
      have J1 := kd (show (⟨#[116, 101, 108, 58]⟩ : ByteArray) ++ strOfNums n.us ++ strOfNums (wrT 1 [59] [59] n.ps) = strOfNums (printN n) by rw [← PT.out, show (⟨#[116, 101, 108, 58]⟩ : ByteArray) = strOfNums [116, 101, 108, 58] by rfl, str_append, str_append])
      have cc1 : ¬ (9223372036854775807 < 4 + (strOfNums n.us).size) := by rw [SU]; omega
      have cc2 : ¬ (9223372036854775807 < 4 + (strOfNums n.us).size + (strOfNums (wrT 1 [59] [59] n.ps)).size) := by rw [SU, SP]; omega
      have WPx := kd (fun (x : BW w3) => WP.out x.w x.h)
      have q1 : ∀ x : BW w3, x.w.cell? ⟨g, 1, none⟩ = some (.string (strOfNums n.us)) := fun x => R3.out.later x 1
      have q4 : ∀ x : BW w3, x.w.cell? ⟨g, 4, none⟩ = some (.slice D1 n.ps.length d1) := fun x => R3.out.later x 4
      clear WH PT htel Q3H k1 k2 k3 k4 k5 LP1 LH1 l16 h16 n1 n2 n3 SS SU SH SP SHH
      go_upto_region 5 with (fail)
      clear k0 q3
      generalize strOfNums (wrT 1 [59] [59] n.ps) = wp at *
      generalize strOfNums n.us = sus at *
      refine region_bw (by kernel_rfl) (by kernel_rfl) ?_
      repeat go_big_quiet_step (fail)
      go_big_quiet_step (exact calls_bw (WPx.out _))
      repeat go_big_quiet_step (fail)
      refine wpQuiet_nil ?_
      rintro _ ⟨y, rfl⟩
      have B5 := kd (bthen B4.out y.h)
      clear q1 q4 WPx WP
      generalize y.w = w5 at *
      go_wp2_with fail
      go_ret2
      exact ⟨B5.out, by rw [E.out, J1.out]; rfl⟩
    · have q3 : ((strOfNums n.sc).toList == [116, 101, 108]) = false := Q3H.out.trans (by simpa using fun e => htel e.symm)
      have PT := kd (print_sip UN.out htel)
      have po1 : 0 ≤ n.po ∧ n.po ≤ 65535 := by
        rcases UN.out.k with ⟨_, _, _, h1, h2, _⟩ | ⟨_, _, h3, _⟩
        · exact ⟨h1, h2⟩
        · rw [h3]; decide
      have EU := kd (fun w => rescape_any (strOfNums n.us) 0 w (by rw [num_size]; exact n2))
      rw [byteL_str UN.out.us] at EU
      have L2 := esc3 0 n.us
      have SE := num_size (escT 0 n.us)
      have cs1 : ¬ (9223372036854775807 < (strOfNums n.sc).size + 1) := by rw [SS]; omega
      have JA := kd (show strOfNums n.sc ++ ⟨#[58]⟩ = strOfNums (n.sc ++ [58]) by rw [show (⟨#[58]⟩ : ByteArray) = strOfNums [58] by rfl, str_append])
      clear htel Q3H
      have EUe := empty_beq n.us
      have EUe2 : ((strOfNums n.us).toList != ([] : List UInt8)) = !n.us.isEmpty := by rw [bne, EUe]
      go_upto_if 30 with (fail)
      rw [JA.out]
      clear k0 q3 cs1 JA EUe EUe2
      go_cut [6] (fun v wx => v = .string (strOfNums (n.sc ++ [58] ++ (if n.us = [] then [] else escT 0 n.us ++ [64]))) ∧ Hid (Below w3.heap.size w3 wx))
      case first =>
        cases hb : n.us.isEmpty with
        | true =>
          have hus := kd (show n.us = [] from List.isEmpty_iff.1 hb)
          clear hb
          go_wp2_with fail
          go_meet
          exact ⟨by rw [if_pos hus.out, List.append_nil], kd (Below.refl _ _)⟩
        | false =>
          have hus := kd (show ¬ n.us = [] from fun h => by rw [h] at hb; cases hb)
          have S1 := num_size (n.sc ++ [58])
          have L1 : (n.sc ++ [58]).length ≤ 4000001 := by rw [List.length_append, List.length_singleton]; omega
          have c1' : ¬ (9223372036854775807 < (strOfNums (n.sc ++ [58])).size + (strOfNums (escT 0 n.us)).size) := by rw [S1, SE]; omega
          have c2' : ¬ (9223372036854775807 < (strOfNums (n.sc ++ [58])).size + (strOfNums (escT 0 n.us)).size + 1) := by rw [S1, SE]; omega
          have JB := kd (show strOfNums (n.sc ++ [58]) ++ strOfNums (escT 0 n.us) ++ ⟨#[64]⟩ = strOfNums (n.sc ++ [58] ++ (escT 0 n.us ++ [64])) by rw [show (⟨#[64]⟩ : ByteArray) = strOfNums [64] by rfl, str_append, str_append, List.append_assoc (n.sc ++ [58])])
          clear hb
          generalize strOfNums (n.sc ++ [58]) = s6 at *
          go_wp2_with (go_at_call 17; refine (EU.out _).mono ?_; rintro _ w4 ⟨rfl, hb4⟩; have B5 := kd hb4)
          go_meet
          exact ⟨by rw [if_neg hus.out]; exact congrArg Value.string JB.out, B5⟩
      case rest =>
      obtain ⟨rfl, BA⟩ := hcut
      obtain ⟨acc1, ha1⟩ : ∃ acc1, n.sc ++ [58] ++ (if n.us = [] then [] else escT 0 n.us ++ [64]) = acc1 := ⟨_, rfl⟩
      have LA1 : acc1.length ≤ 20000000 := by
        rw [← ha1, List.length_append, List.length_append, List.length_singleton]
        split
        · rw [List.length_nil]; omega
        · rw [List.length_append, List.length_singleton]; omega
      rw [ha1] at PT
      rw [ha1]
      clear ha1 EU SE L2
      have R4 := kd (R3.out.below BA.out)
      clear k1 k2 k3 k4 k5
      have k0 : wc.cell? ⟨g, 0, none⟩ = some (.string (strOfNums n.sc)) := R4.out.cell 0
      have k1 : wc.cell? ⟨g, 1, none⟩ = some (.string (strOfNums n.us)) := R4.out.cell 1
      have k2 : wc.cell? ⟨g, 2, none⟩ = some (.string (strOfNums n.ho)) := R4.out.cell 2
      have k3 : wc.cell? ⟨g, 3, none⟩ = some (.int .i64 n.po) := R4.out.cell 3
      have k4 : wc.cell? ⟨g, 4, none⟩ = some (.slice D1 n.ps.length d1) := R4.out.cell 4
      have k5 : wc.cell? ⟨g, 5, none⟩ = some (.slice D2 n.hs.length d2) := R4.out.cell 5
      have SA1 := num_size acc1
      have cs2 : ¬ (9223372036854775807 < (strOfNums acc1).size + (strOfNums n.ho).size) := by rw [SA1, SH]; omega
      have JC := kd (show strOfNums acc1 ++ strOfNums n.ho = strOfNums (acc1 ++ n.ho) from str_append _ _)
      go_upto_if 43 with (fail)
      rw [JC.out]
      clear JC cs2
      have LA2 : (acc1 ++ n.ho).length ≤ 30000000 := by rw [List.length_append]; omega
      generalize acc1 ++ n.ho = acc2 at *
      go_cut [6] (fun v wx => v = .string (strOfNums (acc2 ++ (if n.po = 0 then [] else [58] ++ decL n.po))) ∧ Hid (Below w3.heap.size w3 wx))
      case first =>
        by_cases hpo : n.po = 0
        · have d0 : decide (0 < n.po) = false := by rw [hpo]; rfl
          rw [d0]
          replace hpo := kd hpo
          go_wp2_with fail
          go_meet
          exact ⟨by rw [if_pos hpo.out, List.append_nil], BA⟩
        · have d0 : decide (0 < n.po) = true := by simp; omega
          rw [d0]
          obtain ⟨p, hp⟩ : ∃ p : Nat, n.po = p := ⟨n.po.toNat, by omega⟩
          have p16 : p ≤ 65535 := by omega
          have DL := dec_len5 (po := (p : Int)) (by omega) (by omega)
          have DC := kd (fun w => rdecimal_any p w (by omega))
          rw [hp] at k3
          have HPO := kd hpo
          have HPP := kd hp
          have S2 := num_size acc2
          have SD := num_size (decL (p : Int))
          have c1' : ¬ (9223372036854775807 < (strOfNums acc2).size + 1) := by rw [S2]; omega
          have c2' : ¬ (9223372036854775807 < (strOfNums acc2).size + 1 + (strOfNums (decL (p : Int))).size) := by rw [S2, SD]; omega
          have JB := kd (show strOfNums acc2 ++ ⟨#[58]⟩ ++ strOfNums (decL (p : Int)) = strOfNums (acc2 ++ ([58] ++ decL (p : Int))) by rw [show (⟨#[58]⟩ : ByteArray) = strOfNums [58] by rfl, str_append, str_append, List.append_assoc])
          clear hpo hp
          generalize strOfNums acc2 = s6 at *
          generalize strOfNums (decL (p : Int)) = sd at *
          go_wp2_with (go_at_call 105; refine (DC.out _).mono ?_; rintro _ w4 ⟨rfl, hb4⟩; have B5 := kd (bthen BA.out hb4))
          go_meet
          exact ⟨by rw [if_neg HPO.out, HPP.out]; exact congrArg Value.string JB.out, B5⟩
      case rest =>
      obtain ⟨rfl, BC⟩ := hcut
      obtain ⟨acc3, ha3⟩ : ∃ acc3, acc2 ++ (if n.po = 0 then [] else [58] ++ decL n.po) = acc3 := ⟨_, rfl⟩
      have LA3 : acc3.length ≤ 40000000 := by
        rw [← ha3, List.length_append]
        split
        · rw [List.length_nil]; omega
        · obtain ⟨p, hp⟩ : ∃ p : Nat, n.po = p := ⟨n.po.toNat, by omega⟩
          rw [hp, List.length_append, List.length_singleton]
          have := dec_len5 (po := (p : Int)) (by omega) (by omega)
          omega
      rw [ha3] at PT
      rw [ha3]
      clear ha3
      have R5 := kd (R3.out.below BC.out)
      have SA3 := num_size acc3
      have c1' : ¬ (9223372036854775807 < (strOfNums acc3).size + (strOfNums (wrT 1 [59] [59] n.ps)).size) := by rw [SA3, SP]; omega
      have c2' : ¬ (9223372036854775807 < (strOfNums acc3).size + (strOfNums (wrT 1 [59] [59] n.ps)).size + (strOfNums (wrT 2 [63] [38] n.hs)).size) := by rw [SA3, SP, SHH]; omega
      have JD := kd (show strOfNums acc3 ++ strOfNums (wrT 1 [59] [59] n.ps) ++ strOfNums (wrT 2 [63] [38] n.hs) = strOfNums (printN n) by rw [← PT.out, str_append, str_append])
      have WPx := kd (fun (x : BW wc) => WP.out x.w (bthen BC.out x.h))
      have WHx := kd (fun (x : BW wc) => WH.out x.w (bthen BC.out x.h))
      have q4 : ∀ x : BW wc, x.w.cell? ⟨g, 4, none⟩ = some (.slice D1 n.ps.length d1) := fun x => R5.out.later x 4
      have q5 : ∀ x : BW wc, x.w.cell? ⟨g, 5, none⟩ = some (.slice D2 n.hs.length d2) := fun x => R5.out.later x 5
      clear k0 k1 k2 k3 k4 k5 R4 PT LP1 LH1 SS SU SH SP SHH SA1 SA3
      generalize strOfNums (wrT 1 [59] [59] n.ps) = wp at *
      generalize strOfNums (wrT 2 [63] [38] n.hs) = wh at *
      generalize strOfNums acc3 = s6 at *
      go_upto_region 12 with (fail)
      refine region_bw (by kernel_rfl) (by kernel_rfl) ?_
      repeat go_big_quiet_step (fail)
      go_big_quiet_step (exact calls_bw (WPx.out _))
      repeat go_big_quiet_step (fail)
      go_big_quiet_step (exact calls_bw (WHx.out _))
      repeat go_big_quiet_step (fail)
      refine wpQuiet_nil ?_
      rintro _ ⟨y, rfl⟩
      have B6 := kd (bthen B4.out (bthen BC.out y.h))
      clear q4 q5 WPx WP WHx WH
      generalize y.w = w6 at *
      go_wp2_with fail
      go_ret2
      exact ⟨B6.out, by rw [E.out, JD.out]; rfl⟩
end Go.Proofs.YthfonniieaiocaaGreatDoor
