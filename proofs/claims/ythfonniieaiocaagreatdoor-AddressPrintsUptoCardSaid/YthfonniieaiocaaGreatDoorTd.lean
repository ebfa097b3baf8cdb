/- Contracts: the reference's plain, named. Contracts: the reference's lowered, telephoned. Contract: the reference's telephoned. Contract: the reference's write. -/
import Derived.Test.YthfonniieaiocaaGreatDoorXf
import Derived.Test.YthfonniieaiocaaGreatDoorUq
import Derived.Test.YthfonniieaiocaaGreatDoorWt
import Derived.Test.YthfonniieaiocaaGreatDoorXp
import Derived.Test.YthfonniieaiocaaGreatDoorWl
import Derived.Test.YthfonniieaiocaaGreatDoorXs
set_option linter.unusedVariables false
set_option linter.unusedSimpArgs false
set_option maxRecDepth 100000
namespace Go.Proofs.YthfonniieaiocaaGreatDoor
open Go.RowKit

theorem rplain_any (s : ByteArray) (w : World) (hs : s.size ≤ 4000000) : Calls Tryz.prog 101 #[.string s] w fun e w' => e = .returned (.bool (clean (byteL s))) ∧ w = w' := by
  have HL := kd (byteL_len s)
  have HB := kd (byteL_by s)
  have BAD := kd (fun (j : Nat) (h : j < s.size) (hx : isCtl ((byteL s).getD j 0) = true) => clean_no (xs := byteL s) (k := j) (by rw [HL.out]; exact h) hx)
  have CE := kd (show clean (byteL s) = (byteL s).all fun c => !isCtl c from rfl)
  generalize clean (byteL s) = R at *
  obtain ⟨X, hX⟩ : ∃ X, byteL s = X := ⟨_, rfl⟩
  have HX := kd hX
  rw [hX] at HL HB BAD CE
  clear hX
  go_enter Tryz.func101, Tryz.ntmps101
  go_wp2_with fail
  go_loopw [3] (fun v wr => ∃ j : Nat, j ≤ s.size ∧ v = .int .i64 j ∧ w = wr ∧ Hid (((X.take j).all fun c => !isCtl c) = true)) (fun v _ => s.size - (intOf v).toNat)
  case atStart => exact ⟨0, Nat.zero_le _, rfl, rfl, kd rfl⟩
  case round =>
    obtain ⟨j, hj, rfl, rfl, HA⟩ := hrel
    by_cases hlt : j < s.size
    · have hd : decide ((j : Int) < (s.size : Int)) = true := by simp; omega
      have d1 := fun w => idx_str s (i := j) hlt (z := (j : Int)) rfl w
      rw [HX.out] at d1
      have hx := HB.out _ (getD_mem (l := X) (i := j) (by rw [HL.out]; exact hlt))
      have CT := kd (fun w => refcontrol_any (X.getD j 0) w hx.1 hx.2)
      cases hc : isCtl (X.getD j 0) with
      | true =>
        rw [hc] at CT
        have E := kd (BAD.out j hlt hc)
        clear BAD hc hx CE
        generalize X.getD j 0 = x at *
        go_wp2_with (go_at_call 154; refine (CT.out _).mono ?_; rintro _ w' ⟨rfl, rfl⟩)
        go_ret
        exact ⟨by rw [E.out]; rfl, rfl⟩
      | false =>
        rw [hc] at CT
        have HA2 := kd (show ((X.take (j + 1)).all fun c => !isCtl c) = true by rw [all_take_succ (by rw [HL.out]; exact hlt), HA.out, hc]; rfl)
        clear BAD hc hx HA CE
        generalize X.getD j 0 = x at *
        go_wp2_with (go_at_call 154; refine (CT.out _).mono ?_; rintro _ w' ⟨rfl, rfl⟩)
        go_roundw
        case rel => exact ⟨j + 1, by omega, by go_num, by first | rfl | trivial, HA2⟩
        case measure => simp [intOf]; omega
    · obtain rfl : j = s.size := by omega
      have hd : decide ((s.size : Int) < (s.size : Int)) = false := by simp
      have E := kd (show R = true by rw [CE.out, ← HA.out, List.take_of_length_le (by rw [HL.out]; exact Nat.le_refl _)])
      clear BAD HA CE
      go_wp2_with fail
      go_ret
      exact ⟨by rw [E.out]; rfl, rfl⟩
def lowPm (p : Pm) : Pm := ⟨lowS p.n, p.v, p.h⟩
theorem room_low (l : List Pm) (j : Nat) (n : List Int) (h : j ≤ l.length) : roomF (l.take j) n = if holdsL ((l.take j).map lowPm) (lowS n) = true then 7 else if 16 ≤ j then 4 else 0 := by
  unfold roomF holdsL
  rw [List.any_map, List.length_take, Nat.min_eq_left h]
  rfl
theorem clean_lowS (x : List Int) : clean (lowS x) = clean x := by
  unfold clean lowS
  rw [List.all_map]
  congr 1
  funext c
  simp only [Function.comp]
  rw [ctl_low]
def badP (l : List Pm) (k : Int) (j : Nat) (p : Pm) : Prop := p.n = [] ∨ clean p.n = false ∨ clean p.v = false ∨ ((k = 2 ∧ p.h = false) ∨ (k = 1 ∧ p.h ≠ !p.v.isEmpty)) ∨ roomF (l.take j) p.n ≠ 0
structure NmS (l : List Pm) (k : Int) (j : Nat) (R : Bool) : Prop where
  le : j ≤ 16
  s : l.length ≤ 16 → R = (fldsN k (l.drop j) ((l.take j).map lowPm)).isSome
  b : 16 < l.length → R = false
theorem NmS.start (l : List Pm) (k : Int) : NmS l k 0 (fldsL l k).isSome := by
  refine ⟨Nat.zero_le _, fun h => ?_, fun h => ?_⟩
  · unfold fldsL; rw [if_neg (by omega), List.drop_zero, List.take_zero]
    show (Option.map sortPm (fldsN k l [])).isSome = (fldsN k l []).isSome
    cases fldsN k l [] <;> rfl
  · unfold fldsL; rw [if_pos h]; rfl
theorem NmS.bad {l : List Pm} {k : Int} {j : Nat} {R : Bool} {p : Pm} (h : NmS l k j R) (hp : l[j]? = some p) (hb : badP l k j p) : R = false := by
  have hj : j < l.length := (List.getElem?_eq_some_iff.1 hp).1
  by_cases hl : 16 < l.length
  · exact h.b hl
  · rw [h.s (by omega), dropPm hp, fldsN_cons]
    rcases hb with h0 | h0 | h0 | h0 | h0
    · rw [if_pos (.inl (by rw [h0]; rfl))]; rfl
    · rw [if_pos (.inr (.inl (by rw [clean_lowS]; exact h0)))]; rfl
    · rw [if_pos (.inr (.inr (.inl h0)))]; rfl
    · split
      · rfl
      · first | rfl | (rw [if_pos h0]; rfl)
    · rw [if_pos]
      · rfl
      · right; right; right
        rw [room_low l j p.n (by omega)] at h0
        by_cases h1 : holdsL ((l.take j).map lowPm) (lowS p.n) = true
        · exact h1
        · rw [if_neg h1, if_neg (by omega)] at h0
          exact absurd rfl h0
theorem NmS.next {l : List Pm} {k : Int} {j : Nat} {R : Bool} {p : Pm} (h : NmS l k j R) (hp : l[j]? = some p) (hb : ¬ badP l k j p) : NmS l k (j + 1) R := by
  have hj : j < l.length := (List.getElem?_eq_some_iff.1 hp).1
  unfold badP at hb
  simp only [not_or] at hb
  obtain ⟨b1, b2, b3, b4, b5⟩ := hb
  rw [Decidable.not_not, room_low l j p.n (by omega)] at b5
  have h1 : ¬ holdsL ((l.take j).map lowPm) (lowS p.n) = true := fun h1 => by rw [if_pos h1] at b5; cases b5
  rw [if_neg h1] at b5
  have h16 : ¬ 16 ≤ j := fun h2 => by rw [if_pos h2] at b5; cases b5
  refine ⟨by omega, fun hl => ?_, h.b⟩
  rw [h.s hl, dropPm hp, fldsN_cons, if_neg, if_neg (fun h => h.elim b4.1 b4.2)]
  · have ht : l.take (j + 1) = l.take j ++ [p] := by rw [List.take_add_one, hp]; rfl
    rw [ht, List.map_append]; rfl
  · rintro (h0 | h0 | h0 | h0)
    · exact b1 (lowS_ne.1 h0)
    · exact b2 (by rw [← clean_lowS]; exact h0)
    · exact b3 h0
    · exact h1 h0
theorem NmS.end {l : List Pm} {k : Int} {R : Bool} (h : NmS l k l.length R) : R = true := by
  rw [h.s h.le, List.drop_length]; rfl
set_option maxHeartbeats 4000000 in
theorem rnamed_any (A : Option Addr) (n c : Nat) (l : List Pm) (k : Int) (w : World) (hA : Rds w w.heap.size A (pms l)) (hn : l.length = n) (hN : n ≤ 16000000) (hc : n ≤ c) (hl : ∀ p ∈ l, pmSz p) (hk : k = 1 ∨ k = 2) :
    Calls Tryz.prog 100 #[.slice A n c, .int .i64 k] w fun e w' => e = .returned (.bool (fldsL l k).isSome) ∧ Below w.heap.size w w' := by
  have HA := kd hA; have HN := kd hn; have HL := kd hl
  have NS0 := kd (NmS.start l k)
  generalize (fldsL l k).isSome = R at *
  clear hA hn hl
  go_enter Tryz.func100, Tryz.ntmps100
  go_wp2_with fail
  go_loopw [5] (fun v wr => ∃ j : Nat, j ≤ n ∧ v = .int .i64 j ∧ Hid (NmS l k j R) ∧ Hid (Below w.heap.size w wr)) (fun v _ => n - (intOf v).toNat)
  case atStart => exact ⟨0, Nat.zero_le _, rfl, NS0, kd (Below.refl _ _)⟩
  case round =>
    clear NS0
    obtain ⟨j, hj, rfl, NS, HV⟩ := hrel
    by_cases hlt : j < n
    · have hd2 : decide ((j : Int) < (n : Int)) = true := by simp; omega
      obtain ⟨p, hp⟩ : ∃ p, l[j]? = some p := ⟨_, List.getElem?_eq_getElem (by rw [HN.out]; exact hlt)⟩
      obtain ⟨x1, o1, hA1, hx1, hc1⟩ := HA.out (by rw [pms_len, HN.out]; omega)
      have G1 := kd (show wr.rangeAt x1 (o1 + j * 3) (pmC p) from fun i v hv => (HV.out.cell (p := ⟨x1, _, none⟩) hx1).trans (Rds.range2 hc1 (j * 3) _ (pms_at hp) i v hv))
      obtain ⟨pnb, pvb, pnl, pvl⟩ := HL.out p (List.mem_of_getElem? hp)
      have HP := kd hp
      clear hc1 hp hx1
      obtain ⟨pn, pv, ph⟩ := p
      dsimp only at pnb pvb pnl pvl
      have G2 := kd (show wr.rangeAt x1 (o1 + j * 3) [.string (strOfNums pn), .string (strOfNums pv), .bool ph] from G1.out)
      have R0 := kd (Row.new wr 56 [.string (strOfNums pn), .string (strOfNums pv), .bool ph])
      have B2 := kd (HV.out.alloc HV.out.size (.cells #[.string (strOfNums pn), .string (strOfNums pv), .bool ph] 56))
      subst hA1
      clear G1 HV
      go_upto_region 5 with (with_reducible refine wpList_load_mid rfl 56 (.tmp 15) rfl x1 (o1 + j * 3) rfl [.string (strOfNums pn), .string (strOfNums pv), .bool ph] _ G2.out Tryz.underlying56 rfl (sizePm _ _ _) ?_)
      clear G2
      generalize wr.alloc (.cells #[.string (strOfNums pn), .string (strOfNums pv), .bool ph] 56) = w2 at *
      generalize wr.heap.size = pb at *
      have q0 : ∀ x : BW w2, x.w.cell? ⟨pb, 0, none⟩ = some (.string (strOfNums pn)) := fun x => R0.out.later x 0
      have q1 : ∀ x : BW w2, x.w.cell? ⟨pb, 1, none⟩ = some (.string (strOfNums pv)) := fun x => R0.out.later x 1
      have q2 : ∀ x : BW w2, x.w.cell? ⟨pb, 2, none⟩ = some (.bool ph) := fun x => R0.out.later x 2
      have PN := kd (fun (x : BW w2) => (rplain_any (strOfNums pn) x.w (by rw [num_size]; exact pnl)).mono (R' := fun e w' => e = .returned (.bool (clean pn)) ∧ Below x.w.heap.size x.w w') fun e w' h => ⟨by rw [h.1, byteL_str pnb], h.2 ▸ Below.refl _ _⟩)
      have PV := kd (fun (x : BW w2) => (rplain_any (strOfNums pv) x.w (by rw [num_size]; exact pvl)).mono (R' := fun e w' => e = .returned (.bool (clean pv)) ∧ Below x.w.heap.size x.w w') fun e w' h => ⟨by rw [h.1, byteL_str pvb], h.2 ▸ Below.refl _ _⟩)
      have LT := kd (show (l.take j).length = j by rw [List.length_take, HN.out]; omega)
      have RO := kd (fun (x : BW w2) => rroom_any (some ⟨x1, o1, none⟩) j c (l.take j) pn x.w (rds_take ((HA.out.below (bthen B2.out x.h)).up (Nat.le_trans B2.out.size x.h.size)) j) LT.out (fun q hq => HL.out q (List.mem_of_mem_take hq)) (by omega) pnb pnl)
      have jc : (j : Int) ≤ (c : Int) := by omega
      have jn : (j : Int) ≤ (n : Int) := by omega
      clear pnb pvb pnl pvl R0 LT
      by_cases n0 : pn = []
      · have t2 : (strOfNums pn).toList = [] := num_nil.2 n0
        have t3 : ((strOfNums pn).toList == []) = true := by rw [t2]; rfl
        have N0 := kd n0
        clear n0
        have E := kd (NS.out.bad HP.out (.inl N0.out))
        clear NS
        refine region_bw (by kernel_rfl) (by kernel_rfl) ?_
        repeat go_big_quiet_step (fail)
        refine wpQuiet_nil ?_
        rintro _ ⟨y, rfl⟩
        have B5 := kd (bthen B2.out y.h)
        clear q0 q1 q2 PN PV RO B2
        generalize y.w = w5 at *
        go_wp2_with fail
        go_ret
        exact ⟨by rw [E.out]; rfl, B5.out⟩
      have t2 : ¬ (strOfNums pn).toList = [] := fun h => n0 (num_nil.1 h)
      have t3 : ((strOfNums pn).toList == []) = false := by simpa using t2
      cases cn : clean pn with
      | false =>
        rw [cn] at PN
        have E := kd (NS.out.bad HP.out (.inr (.inl cn)))
        clear NS
        refine region_bw (by kernel_rfl) (by kernel_rfl) ?_
        repeat go_big_quiet_step (fail)
        go_big_quiet_step (exact calls_bw (PN.out _))
        repeat go_big_quiet_step (fail)
        refine wpQuiet_nil ?_
        rintro _ ⟨y, rfl⟩
        have B5 := kd (bthen B2.out y.h)
        clear q0 q1 q2 PN PV RO B2
        generalize y.w = w5 at *
        go_wp2_with fail
        go_ret
        exact ⟨by rw [E.out]; rfl, B5.out⟩
      | true =>
      rw [cn] at PN
      cases cv : clean pv with
      | false =>
        rw [cv] at PV
        have E := kd (NS.out.bad HP.out (.inr (.inr (.inl cv))))
        clear NS
        refine region_bw (by kernel_rfl) (by kernel_rfl) ?_
        repeat go_big_quiet_step (fail)
        go_big_quiet_step (exact calls_bw (PN.out _))
        repeat go_big_quiet_step (fail)
        go_big_quiet_step (exact calls_bw (PV.out _))
        repeat go_big_quiet_step (fail)
        refine wpQuiet_nil ?_
        rintro _ ⟨y, rfl⟩
        have B5 := kd (bthen B2.out y.h)
        clear q0 q1 q2 PN PV RO B2
        generalize y.w = w5 at *
        go_wp2_with fail
        go_ret
        exact ⟨by rw [E.out]; rfl, B5.out⟩
      | true =>
      rw [cv] at PV
      cases ph with
      | false =>
        by_cases v0 : pv = []
        · have t5 : (strOfNums pv).toList = [] := num_nil.2 v0
          have t6 : ((strOfNums pv).toList == []) = true := by rw [t5]; rfl
          have t7 : ((strOfNums pv).toList != []) = false := by rw [t5]; rfl
          replace v0 := kd v0
          rcases hk with rfl | rfl
          · have k1 : ((1 : Int) == 2) = false := by decide
            cases hr : decide (roomF (l.take j) pn = 0) with
            | false =>
              have r0 : roomF (l.take j) pn ≠ 0 := by simpa using hr
              have r1 : (roomF (l.take j) pn == 0) = false := by simpa using r0
              have r2 : (roomF (l.take j) pn != 0) = true := by simpa using r0
              have HR0 := kd r0
              clear r0 hr
              have E := kd (NS.out.bad HP.out (.inr (.inr (.inr (.inr HR0.out)))))
              clear NS HR0
              generalize roomF (l.take j) pn = rm at *
              refine region_bw (by kernel_rfl) (by kernel_rfl) ?_
              repeat go_big_quiet_step (fail)
              go_big_quiet_step (exact calls_bw (PN.out _))
              repeat go_big_quiet_step (fail)
              go_big_quiet_step (exact calls_bw (PV.out _))
              repeat go_big_quiet_step (fail)
              go_big_quiet_step (exact calls_bw (RO.out _))
              repeat go_big_quiet_step (fail)
              refine wpQuiet_nil ?_
              rintro _ ⟨y, rfl⟩
              have B5 := kd (bthen B2.out y.h)
              clear q0 q1 q2 PN PV RO B2
              generalize y.w = w5 at *
              go_wp2_with fail
              go_ret
              exact ⟨by rw [E.out]; rfl, B5.out⟩
            | true =>
              have r0 : roomF (l.take j) pn = 0 := by simpa using hr
              have NX0 := kd (show ¬ badP l 1 j ⟨pn, pv, false⟩ from by
                unfold badP
                rintro (h | h | h | h | h)
                · exact n0 h
                · rw [cn] at h; cases h
                · rw [cv] at h; cases h
                · exact (show ¬ _ from fun h => h.elim (fun h => absurd h.1 (by decide)) (fun h => h.2 (by rw [v0.out]; rfl))) h
                · exact h r0)
              rw [r0] at RO
              clear r0 hr
              have NX := kd (NS.out.next HP.out (NX0.out))
              clear NS
              refine region_bw (by kernel_rfl) (by kernel_rfl) ?_
              repeat go_big_quiet_step (fail)
              go_big_quiet_step (exact calls_bw (PN.out _))
              repeat go_big_quiet_step (fail)
              go_big_quiet_step (exact calls_bw (PV.out _))
              repeat go_big_quiet_step (fail)
              go_big_quiet_step (exact calls_bw (RO.out _))
              repeat go_big_quiet_step (fail)
              refine wpQuiet_nil ?_
              rintro _ ⟨y, rfl⟩
              have B5 := kd (bthen B2.out y.h)
              clear q0 q1 q2 PN PV RO B2
              generalize y.w = w5 at *
              go_wp2_with fail
              go_roundw
              case rel => exact ⟨j + 1, by omega, by go_num, NX, B5⟩
              case measure => simp [intOf]; omega
          · have k1 : ((2 : Int) == 2) = true := by decide
            have E := kd (NS.out.bad HP.out (.inr (.inr (.inr (.inl (.inl ⟨rfl, rfl⟩))))))
            clear NS
            refine region_bw (by kernel_rfl) (by kernel_rfl) ?_
            repeat go_big_quiet_step (fail)
            go_big_quiet_step (exact calls_bw (PN.out _))
            repeat go_big_quiet_step (fail)
            go_big_quiet_step (exact calls_bw (PV.out _))
            repeat go_big_quiet_step (fail)
            refine wpQuiet_nil ?_
            rintro _ ⟨y, rfl⟩
            have B5 := kd (bthen B2.out y.h)
            clear q0 q1 q2 PN PV RO B2
            generalize y.w = w5 at *
            go_wp2_with fail
            go_ret
            exact ⟨by rw [E.out]; rfl, B5.out⟩
        · have t5 : ¬ (strOfNums pv).toList = [] := fun h => v0 (num_nil.1 h)
          have t6 : ((strOfNums pv).toList == []) = false := by simpa using t5
          have t7 : ((strOfNums pv).toList != []) = true := by simpa using t5
          have BP := kd (show badP l k j ⟨pn, pv, false⟩ from .inr (.inr (.inr (.inl (hk.symm.elim (fun h => .inl ⟨h, rfl⟩) (fun h => .inr ⟨h, fun e => v0 (by cases pv with | nil => rfl | cons a b => cases e)⟩))))))
          clear v0
          have E := kd (NS.out.bad HP.out (BP.out))
          clear NS
          refine region_bw (by kernel_rfl) (by kernel_rfl) ?_
          repeat go_big_quiet_step (fail)
          go_big_quiet_step (exact calls_bw (PN.out _))
          repeat go_big_quiet_step (fail)
          go_big_quiet_step (exact calls_bw (PV.out _))
          repeat go_big_quiet_step (fail)
          refine wpQuiet_nil ?_
          rintro _ ⟨y, rfl⟩
          have B5 := kd (bthen B2.out y.h)
          clear q0 q1 q2 PN PV RO B2
          generalize y.w = w5 at *
          go_wp2_with fail
          go_ret
          exact ⟨by rw [E.out]; rfl, B5.out⟩
      | true =>
        by_cases v0 : pv = []
        · have t5 : (strOfNums pv).toList = [] := num_nil.2 v0
          have t6 : ((strOfNums pv).toList == []) = true := by rw [t5]; rfl
          have t7 : ((strOfNums pv).toList != []) = false := by rw [t5]; rfl
          replace v0 := kd v0
          rcases hk with rfl | rfl
          · have k1 : ((1 : Int) == 1) = true := by decide
            have E := kd (NS.out.bad HP.out (.inr (.inr (.inr (.inl (.inr ⟨rfl, fun e => by rw [v0.out] at e; cases e⟩))))))
            clear NS
            refine region_bw (by kernel_rfl) (by kernel_rfl) ?_
            repeat go_big_quiet_step (fail)
            go_big_quiet_step (exact calls_bw (PN.out _))
            repeat go_big_quiet_step (fail)
            go_big_quiet_step (exact calls_bw (PV.out _))
            repeat go_big_quiet_step (fail)
            refine wpQuiet_nil ?_
            rintro _ ⟨y, rfl⟩
            have B5 := kd (bthen B2.out y.h)
            clear q0 q1 q2 PN PV RO B2
            generalize y.w = w5 at *
            go_wp2_with fail
            go_ret
            exact ⟨by rw [E.out]; rfl, B5.out⟩
          · have k1 : ((2 : Int) == 1) = false := by decide
            cases hr : decide (roomF (l.take j) pn = 0) with
            | false =>
              have r0 : roomF (l.take j) pn ≠ 0 := by simpa using hr
              have r1 : (roomF (l.take j) pn == 0) = false := by simpa using r0
              have r2 : (roomF (l.take j) pn != 0) = true := by simpa using r0
              have HR0 := kd r0
              clear r0 hr
              have E := kd (NS.out.bad HP.out (.inr (.inr (.inr (.inr HR0.out)))))
              clear NS HR0
              generalize roomF (l.take j) pn = rm at *
              refine region_bw (by kernel_rfl) (by kernel_rfl) ?_
              repeat go_big_quiet_step (fail)
              go_big_quiet_step (exact calls_bw (PN.out _))
              repeat go_big_quiet_step (fail)
              go_big_quiet_step (exact calls_bw (PV.out _))
              repeat go_big_quiet_step (fail)
              go_big_quiet_step (exact calls_bw (RO.out _))
              repeat go_big_quiet_step (fail)
              refine wpQuiet_nil ?_
              rintro _ ⟨y, rfl⟩
              have B5 := kd (bthen B2.out y.h)
              clear q0 q1 q2 PN PV RO B2
              generalize y.w = w5 at *
              go_wp2_with fail
              go_ret
              exact ⟨by rw [E.out]; rfl, B5.out⟩
            | true =>
              have r0 : roomF (l.take j) pn = 0 := by simpa using hr
              have NX0 := kd (show ¬ badP l 2 j ⟨pn, pv, true⟩ from by
                unfold badP
                rintro (h | h | h | h | h)
                · exact n0 h
                · rw [cn] at h; cases h
                · rw [cv] at h; cases h
                · exact (show ¬ _ from fun h => h.elim (fun h => by cases h.2) (fun h => absurd h.1 (by decide))) h
                · exact h r0)
              rw [r0] at RO
              clear r0 hr
              have NX := kd (NS.out.next HP.out (NX0.out))
              clear NS
              refine region_bw (by kernel_rfl) (by kernel_rfl) ?_
              repeat go_big_quiet_step (fail)
              go_big_quiet_step (exact calls_bw (PN.out _))
              repeat go_big_quiet_step (fail)
              go_big_quiet_step (exact calls_bw (PV.out _))
              repeat go_big_quiet_step (fail)
              go_big_quiet_step (exact calls_bw (RO.out _))
              repeat go_big_quiet_step (fail)
              refine wpQuiet_nil ?_
              rintro _ ⟨y, rfl⟩
              have B5 := kd (bthen B2.out y.h)
              clear q0 q1 q2 PN PV RO B2
              generalize y.w = w5 at *
              go_wp2_with fail
              go_roundw
              case rel => exact ⟨j + 1, by omega, by go_num, NX, B5⟩
              case measure => simp [intOf]; omega
        · have t5 : ¬ (strOfNums pv).toList = [] := fun h => v0 (num_nil.1 h)
          have t6 : ((strOfNums pv).toList == []) = false := by simpa using t5
          have t7 : ((strOfNums pv).toList != []) = true := by simpa using t5
          cases hr : decide (roomF (l.take j) pn = 0) with
          | false =>
            have r0 : roomF (l.take j) pn ≠ 0 := by simpa using hr
            have r1 : (roomF (l.take j) pn == 0) = false := by simpa using r0
            have r2 : (roomF (l.take j) pn != 0) = true := by simpa using r0
            have HR0 := kd r0
            clear r0 hr
            have E := kd (NS.out.bad HP.out (.inr (.inr (.inr (.inr HR0.out)))))
            clear NS HR0
            generalize roomF (l.take j) pn = rm at *
            refine region_bw (by kernel_rfl) (by kernel_rfl) ?_
            repeat go_big_quiet_step (fail)
            go_big_quiet_step (exact calls_bw (PN.out _))
            repeat go_big_quiet_step (fail)
            go_big_quiet_step (exact calls_bw (PV.out _))
            repeat go_big_quiet_step (fail)
            go_big_quiet_step (exact calls_bw (RO.out _))
            repeat go_big_quiet_step (fail)
            refine wpQuiet_nil ?_
            rintro _ ⟨y, rfl⟩
            have B5 := kd (bthen B2.out y.h)
            clear q0 q1 q2 PN PV RO B2
            generalize y.w = w5 at *
            go_wp2_with fail
            go_ret
            exact ⟨by rw [E.out]; rfl, B5.out⟩
          | true =>
            have r0 : roomF (l.take j) pn = 0 := by simpa using hr
            have NX0 := kd (show ¬ badP l k j ⟨pn, pv, true⟩ from by
              unfold badP
              rintro (h | h | h | h | h)
              · exact n0 h
              · rw [cn] at h; cases h
              · rw [cv] at h; cases h
              · exact (show ¬ _ from fun h => h.elim (fun h => by cases h.2) (fun h => h.2 (by cases pv with | nil => exact absurd rfl v0 | cons a b => rfl))) h
              · exact h r0)
            rw [r0] at RO
            clear r0 hr
            have NX := kd (NS.out.next HP.out (NX0.out))
            clear NS
            refine region_bw (by kernel_rfl) (by kernel_rfl) ?_
            repeat go_big_quiet_step (fail)
            go_big_quiet_step (exact calls_bw (PN.out _))
            repeat go_big_quiet_step (fail)
            go_big_quiet_step (exact calls_bw (PV.out _))
            repeat go_big_quiet_step (fail)
            go_big_quiet_step (exact calls_bw (RO.out _))
            repeat go_big_quiet_step (fail)
            refine wpQuiet_nil ?_
            rintro _ ⟨y, rfl⟩
            have B5 := kd (bthen B2.out y.h)
            clear q0 q1 q2 PN PV RO B2
            generalize y.w = w5 at *
            go_wp2_with fail
            go_roundw
            case rel => exact ⟨j + 1, by omega, by go_num, NX, B5⟩
            case measure => simp [intOf]; omega
    · obtain rfl : j = n := by omega
      have hd2 : decide ((j : Int) < (j : Int)) = false := by simp
      have E := kd (show R = true from NmS.end (by rw [HN.out]; exact NS.out))
      go_wp2_with fail
      go_ret
      exact ⟨by rw [E.out]; rfl, HV.out⟩
end Go.Proofs.YthfonniieaiocaaGreatDoor
namespace Go.Proofs.YthfonniieaiocaaGreatDoor
open Go.RowKit

set_option maxHeartbeats 2000000 in
theorem rlow_any (A : Option Addr) (n c : Nat) (l : List Pm) (w : World) (hA : Rds w w.heap.size A (pms l)) (hn : l.length = n) (hN : n ≤ 1000000) (hl : ∀ p ∈ l, pmSz p) :
    Calls Tryz.prog 102 #[.slice A n c] w fun e w' => ∃ v, e = .returned v ∧ VX 56 3 w v n (pms (sortPm (l.map lowPm))) w' := by
  have HA := kd hA; have HN := kd hn; have HL := kd hl
  clear hA hn hl
  go_enter Tryz.func102, Tryz.ntmps102
  go_wp2_with fail
  go_loopw [3, 4] (fun v vj wr => ∃ (j : Nat) (v' : Value), v' = v ∧ vj = .int .i64 j ∧ j ≤ n ∧ Hid (VX 56 3 w v' ((l.take j).map lowPm).length (pms ((l.take j).map lowPm)) wr)) (fun _ v _ => n - (intOf v).toNat)
  case atStart => exact ⟨0, _, rfl, rfl, Nat.zero_le _, kd (VX.nil _ _ _)⟩
  case round =>
    obtain ⟨j, v, rfl, rfl, hj, HV⟩ := hrel
    by_cases hlt : j < n
    · have hd2 : decide ((j : Int) < (n : Int)) = true := by simp; omega
      obtain ⟨p, hp⟩ : ∃ p, l[j]? = some p := ⟨_, List.getElem?_eq_getElem (by rw [HN.out]; exact hlt)⟩
      obtain ⟨x1, o1, hA1, hx1, hc1⟩ := HA.out (by rw [pms_len, HN.out]; omega)
      have G1 := kd (show wr.rangeAt x1 (o1 + j * 3) (pmC p) from fun i v hv => (HV.out.bw.cell (p := ⟨x1, _, none⟩) hx1).trans (Rds.range2 hc1 (j * 3) _ (pms_at hp) i v hv))
      obtain ⟨pnb, pvb, pnl, pvl⟩ := HL.out p (List.mem_of_getElem? hp)
      have TK := kd (show (l.take (j + 1)).map lowPm = (l.take j).map lowPm ++ [lowPm p] by rw [List.take_add_one, hp, List.map_append]; rfl)
      have LN := kd (show ((l.take j).map lowPm).length = j by rw [List.length_map, List.length_take, HN.out]; omega)
      clear hc1 hp hx1
      obtain ⟨pn, pv, ph⟩ := p
      dsimp only at pnb pvb pnl pvl
      have G2 := kd (show wr.rangeAt x1 (o1 + j * 3) [.string (strOfNums pn), .string (strOfNums pv), .bool ph] from G1.out)
      have LW := kd (fun w => reflower_any (strOfNums pn) w (by rw [num_size]; exact pnl))
      rw [byteL_str pnb] at LW
      have RP := kd (Row.new wr 56 [.string (strOfNums pn), .string (strOfNums pv), .bool ph])
      have B2 := kd ((Below.refl wr.heap.size wr).alloc (Nat.le_refl _) (.cells #[.string (strOfNums pn), .string (strOfNums pv), .bool ph] 56))
      have PG := kd (Nat.le_refl wr.heap.size)
      subst hA1
      clear G1 pnb pvb pnl pvl
      go_upto_region 6 with (with_reducible refine wpList_load_mid rfl 56 (.tmp 14) rfl x1 (o1 + j * 3) rfl [.string (strOfNums pn), .string (strOfNums pv), .bool ph] _ G2.out Tryz.underlying56 rfl (sizePm _ _ _) ?_)
      clear G2
      generalize wr.alloc (.cells #[.string (strOfNums pn), .string (strOfNums pv), .bool ph] 56) = w2 at *
      obtain ⟨pb, hpb⟩ : ∃ pb, wr.heap.size = pb := ⟨_, rfl⟩
      rw [hpb] at RP ⊢
      have PG2 := kd (show wr.heap.size ≤ pb from hpb ▸ Nat.le_refl _)
      clear hpb PG
      have k0 : w2.cell? ⟨pb, 0, none⟩ = some (.string (strOfNums pn)) := RP.out.cell 0
      go_wp2_with fail
      refine (LW.out w2).mono ?_
      rintro e w3 ⟨rfl, hb⟩
      have RP3 := kd (RP.out.below hb)
      have B3 := kd (bthen B2.out hb)
      clear k0 hb RP B2 LW
      have f0 : w3.frozen? ⟨pb, 0, none⟩ = false := RP3.out.frozen 0
      have k0 : w3.cell? ⟨pb, 0, none⟩ = some (.string (strOfNums pn)) := RP3.out.cell 0
      obtain ⟨nm, hnm⟩ : ∃ nm, lowS pn = nm := ⟨_, rfl⟩
      rw [hnm]
      have RP4 := kd (show Row (w3.setCell ⟨pb, 0, none⟩ (.string (strOfNums nm))) pb 56 [.string (strOfNums nm), .string (strOfNums pv), .bool ph] from RP3.out.set 0 _)
      have B4 := kd (B3.out.setCell (p := ⟨pb, 0, none⟩) PG2.out (.string (strOfNums nm)))
      have V4 := kd (HV.out.step B4.out)
      have TK2 := kd (show (l.take (j + 1)).map lowPm = (l.take j).map lowPm ++ [⟨nm, pv, ph⟩] by rw [TK.out, ← hnm]; rfl)
      have B1 := kd (show ((l.take j).map lowPm).length + 1 ≤ 16777216 by rw [LN.out]; omega)
      clear hnm TK
      go_upto_region 7 with (fail)
      clear f0 k0 RP3 B3
      generalize w3.setCell ⟨pb, 0, none⟩ (.string (strOfNums nm)) = w4 at *
      go_wp2_with (first
        | (with_reducible refine wpList_loadR rfl 56 (.tmp 5) rfl RP4.out rfl Tryz.underlying56 rfl (sizePm _ _ _) ?_)
        | (with_reducible refine wpList_pushF rfl (.tmp 20) (.tmp 22) rfl rfl V4.out ⟨nm, pv, ph⟩ rfl B1.out ?_; intro v7 w7 H7))
      go_roundw
      case rel => exact ⟨j + 1, _, rfl, by go_num, by omega, kd (by rw [TK2.out]; exact H7.out)⟩
      case measure => simp [intOf]; omega
    · obtain rfl : j = n := by omega
      have hd2 : decide ((j : Int) < (j : Int)) = false := by simp
      have TE : (l.take j).map lowPm = l.map lowPm := by rw [List.take_of_length_le (by rw [HN.out]; exact Nat.le_refl _)]
      rw [TE] at HV
      have ML := kd (show (l.map lowPm).length = j by rw [List.length_map, HN.out])
      rw [ML.out] at HV
      obtain ⟨A', c', hv, hA'⟩ := HV.out.rdw
      subst hv
      have SO := kd (rsorted_any A' j c' (l.map lowPm) wr hA' ML.out hN (fun p hp => by
        obtain ⟨q, hq, rfl⟩ := List.mem_map.1 hp
        exact lowS_by (HL.out q hq).1))
      clear TE hA'
      go_wp2_with (go_at_call 47; refine SO.out.mono ?_; rintro _ w2 ⟨v2, rfl, V2⟩)
      go_ret
      exact ⟨_, rfl, V2.base HV.out.bw⟩
theorem teled_eq {xs : List Int} {T : List Int} {z : Nat × Int} {j : Nat} (hT : PhoX xs 0 (strOfNums T) z j) (hb : By T) : (decide (z.2 = 0) && decide (T = xs)) = dialedL xs := by
  have hk := phone_ok (xs := xs) (a := 0) (Nat.zero_le _)
  obtain ⟨_, h⟩ := hT
  cases hp : phoneL xs 0 with
  | error e =>
    rw [hp] at h hk
    dsimp only at h hk
    subst h
    rw [decide_eq_false hk.2, Bool.false_and]
    symm
    rw [Bool.eq_false_iff]
    intro hd
    have := phone_read hd [] [] (.inl rfl)
    rw [List.append_nil, List.nil_append] at this
    rw [show (([] : List Int).length) = 0 from rfl] at this
    rw [this] at hp
    cases hp
  | ok r =>
    rw [hp] at h hk
    dsimp only at h hk
    obtain ⟨h1, h2, h3⟩ := h
    subst h2
    have e : T = r.1 := by have := congrArg byteL h1; rwa [byteL_str hb, byteL_str hk.1] at this
    subst e
    rw [show decide (((0, 0) : Nat × Int).2 = 0) = true from rfl, Bool.true_and]
    by_cases hx : r.1 = xs
    · rw [decide_eq_true hx, ← hx]; exact hk.2.1.symm
    · rw [decide_eq_false hx]
      symm
      rw [Bool.eq_false_iff]
      intro hd
      have := phone_read hd [] [] (.inl rfl)
      rw [List.append_nil, List.nil_append] at this
      rw [show (([] : List Int).length) = 0 from rfl] at this
      rw [this] at hp
      injection hp with hp
      exact hx (by rw [← hp])
end Go.Proofs.YthfonniieaiocaaGreatDoor
namespace Go.Proofs.YthfonniieaiocaaGreatDoor
open Go.RowKit

theorem rteled_any (s : ByteArray) (w : World) (hs : s.size ≤ 4000000) : Calls Tryz.prog 103 #[.string s] w fun e w' => e = .returned (.bool (dialedL (byteL s))) ∧ Below w.heap.size w w' := by
  have R0 := kd (Row.new w 93 (rdC s 0 (0, 0)))
  have B0 := kd ((Below.refl w.heap.size w).alloc (Nat.le_refl _) (.cells (rdC s 0 (0, 0)).toArray 93))
  have TL := kd (rtel_any _ w.heap.size 0 s R0.out (Nat.zero_le _) hs)
  unfold rdC at TL B0
  have TE := kd (fun (T : ByteArray) z j (h : PhoX (byteL s) 0 T z j) => teled_eq (T := byteL T) (by rw [str_byteL]; exact h) (byteL_by T))
  generalize dialedL (byteL s) = R at *
  clear R0
  go_enter Tryz.func103, Tryz.ntmps103
  go_upto_region 3 with (go_at_call 79; refine TL.out.mono ?_; rintro _ w2 ⟨T, z, j, rfl, h2, hT⟩)
  have E := kd (TE.out T z j hT)
  have k3 := h2.r.cell 3
  simp only [rdC, List.getElem?_cons_succ, List.getElem?_cons_zero] at k3
  have B2 := kd (B0.out.grown h2.g B0.out.size (fun k hk => by injection hk with hk; omega))
  clear TL TE hT h2 B0
  obtain ⟨zn, zk⟩ := z
  dsimp only at k3 E
  by_cases hz : zk = 0
  · subst hz
    by_cases hTs : T = s
    · subst hTs
      have E2 := kd (show R = true by rw [← E.out]; simp)
      have q1 : (T.toList == T.toList) = true := by simp
      clear E
      go_wp2_with fail
      go_ret
      exact ⟨by rw [E2.out]; rfl, B2.out⟩
    · have hb : byteL T ≠ byteL s := fun h => hTs (by rw [← str_byteL T, h, str_byteL])
      have E2 := kd (show R = false by rw [← E.out, decide_eq_false hb]; simp)
      have q1 : (T.toList == s.toList) = false := by rw [tl_beq]; simpa using hb
      clear E hTs hb
      go_wp2_with fail
      go_ret
      exact ⟨by rw [E2.out]; rfl, B2.out⟩
  · have e1 : (zk == 0) = false := by simpa using hz
    have E2 := kd (show R = false by rw [← E.out, decide_eq_false hz]; rfl)
    clear E hz
    go_wp2_with fail
    go_ret
    exact ⟨by rw [E2.out]; rfl, B2.out⟩
end Go.Proofs.YthfonniieaiocaaGreatDoor
namespace Go.Proofs.YthfonniieaiocaaGreatDoor
open Go.RowKit

def wrT (k : Int) (m1 m2 : List Int) : List Pm → List Int
  | [] => []
  | p :: r => m1 ++ escT k p.n ++ (if p.h = true then [61] ++ escT k p.v else []) ++ wrT k m2 m2 r
theorem wrT_ps (l : List Pm) : wrT 1 [59] [59] l = l.flatMap pmT := by
  induction l with
  | nil => rfl
  | cons p r ih => rw [wrT, ih, List.flatMap_cons]; rfl
theorem wrT_hs (m : List Int) : ∀ (l : List Pm) (b : Bool), (∀ p ∈ l, p.h = true) → (if b = true then [63] else [38]) = m → wrT 2 m [38] l = hdsT l b
  | [], b, _, _ => rfl
  | p :: r, b, h, hm => by
    rw [wrT, wrT_hs [38] r false (fun q hq => h q (List.mem_cons_of_mem _ hq)) rfl, if_pos (h p (List.mem_cons_self ..))]
    show _ = (if b = true then [63] else [38]) ++ hdT p ++ hdsT r false
    unfold hdT
    rw [hm]
    simp
theorem esc3 (k : Int) (s : List Int) : (escT k s).length ≤ 3 * s.length := by
  unfold escT
  induction s with
  | nil => simp
  | cons c r ih =>
    rw [List.flatMap_cons, List.length_append, List.length_cons]
    have : (escC2 k c).length ≤ 3 := by unfold escC2; split <;> simp
    omega
set_option maxHeartbeats 4000000 in
theorem rwrite_any (A : Option Addr) (n c : Nat) (l : List Pm) (m1 m2 : ByteArray) (k : Int) (w : World) (hA : Rds w w.heap.size A (pms l)) (hn : l.length = n) (hN : n ≤ 1000) (h1 : m1.size ≤ 10) (h2 : m2.size ≤ 10) (hl : ∀ p ∈ l, pmSz p) :
    Calls Tryz.prog 104 #[.slice A n c, .string m1, .string m2, .int .i64 k] w fun e w' => e = .returned (.string (strOfNums (wrT k (byteL m1) (byteL m2) l))) ∧ Below w.heap.size w w' := by
  have HA := kd hA; have HN := kd hn; have HL := kd hl
  obtain ⟨W, hW⟩ : ∃ W, wrT k (byteL m1) (byteL m2) l = W := ⟨_, rfl⟩
  rw [hW]
  have HW := kd hW
  clear hA hn hl hW
  go_enter Tryz.func104, Tryz.ntmps104
  go_wp2_with fail
  go_loopw [9, 10, 11] (fun vo vm vj wr => ∃ (j : Nat) (acc : List Int) (m : ByteArray), vo = .string (strOfNums acc) ∧ vm = .string m ∧ vj = .int .i64 j ∧ j ≤ n ∧ m.size ≤ 10 ∧ acc.length ≤ j * 25000000 ∧ Hid (acc ++ wrT k (byteL m) (byteL m2) (l.drop j) = W) ∧ Hid (Below w.heap.size w wr)) (fun _ _ v _ => n - (intOf v).toNat)
  case atStart => exact ⟨0, [], m1, rfl, rfl, rfl, Nat.zero_le _, h1, by simp, kd (by rw [List.drop_zero]; exact HW.out), kd (Below.refl _ _)⟩
  case round =>
    clear HW
    obtain ⟨j, acc, m, rfl, rfl, rfl, hj, hm, hacc, HE, HB⟩ := hrel
    by_cases hlt : j < n
    · have hd2 : decide ((j : Int) < (n : Int)) = true := by simp; omega
      obtain ⟨p, hp⟩ : ∃ p, l[j]? = some p := ⟨_, List.getElem?_eq_getElem (by rw [HN.out]; exact hlt)⟩
      obtain ⟨x1, o1, hA1, hx1, hc1⟩ := HA.out (by rw [pms_len, HN.out]; omega)
      have G1 := kd (fun W' (hb : Below w.heap.size w W') => show W'.rangeAt x1 (o1 + j * 3) (pmC p) from fun i v hv => (hb.cell (p := ⟨x1, _, none⟩) hx1).trans (Rds.range2 hc1 (j * 3) _ (pms_at hp) i v hv))
      obtain ⟨pnb, pvb, pnl, pvl⟩ := HL.out p (List.mem_of_getElem? hp)
      have ED := kd (show acc ++ (byteL m ++ escT k p.n ++ (if p.h = true then [61] ++ escT k p.v else []) ++ wrT k (byteL m2) (byteL m2) (l.drop (j + 1))) = W by rw [← HE.out, dropPm hp]; rfl)
      clear hc1 hp hx1 HE
      obtain ⟨pn, pv, ph⟩ := p
      dsimp only at pnb pvb pnl pvl ED
      have k0 : ∀ W', Below w.heap.size w W' → W'.cell? ⟨x1, o1 + j * 3, none⟩ = some (.string (strOfNums pn)) := fun W' hb => by have := G1.out W' hb 0 (.string (strOfNums pn)) rfl; rwa [Nat.add_zero] at this
      have k1 : ∀ W', Below w.heap.size w W' → W'.cell? ⟨x1, o1 + j * 3 + 1, none⟩ = some (.string (strOfNums pv)) := fun W' hb => G1.out W' hb 1 (.string (strOfNums pv)) rfl
      have k2 : ∀ W', Below w.heap.size w W' → W'.cell? ⟨x1, o1 + j * 3 + 2, none⟩ = some (.bool ph) := fun W' hb => G1.out W' hb 2 (.bool ph) rfl
      have K1 := kd k1; have K2 := kd k2
      have c0 := k0 wr HB.out
      have EN := kd (fun w => rescape_any (strOfNums pn) k w (by rw [num_size]; exact pnl))
      have EV := kd (fun w => rescape_any (strOfNums pv) k w (by rw [num_size]; exact pvl))
      rw [byteL_str pnb] at EN
      rw [byteL_str pvb] at EV
      have L1 := esc3 k pn
      have L2 := esc3 k pv
      have SA := num_size acc
      have SN := num_size (escT k pn)
      have SV := num_size (escT k pv)
      subst hA1
      have J1 := kd (show strOfNums acc ++ m ++ strOfNums (escT k pn) = strOfNums (acc ++ byteL m ++ escT k pn) by rw [← str_append, ← str_append, str_byteL])
      have cc1 : ¬ (9223372036854775807 < (strOfNums acc).size + m.size) := by rw [SA]; omega
      have cc2 : ¬ (9223372036854775807 < (strOfNums acc).size + m.size + (strOfNums (escT k pn)).size) := by rw [SA, SN]; omega
      have LM := byteL_len m
      clear k0 k1 k2 G1 pnb pvb
      cases ph with
      | false =>
        have ED2 := kd (show (acc ++ byteL m ++ escT k pn) ++ wrT k (byteL m2) (byteL m2) (l.drop (j + 1)) = W by rw [← ED.out]; simp)
        have LA : (acc ++ byteL m ++ escT k pn).length ≤ (j + 1) * 25000000 := by rw [List.length_append, List.length_append, LM]; omega
        clear ED SV L2 EV
        generalize strOfNums (escT k pn) = en at *
        generalize hac : acc ++ byteL m ++ escT k pn = acc2 at *
        clear hac
        go_upto_region 7 with (go_at_call 17; refine (EN.out _).mono ?_; rintro _ w2 ⟨rfl, hb2⟩)
        have B2 := kd (bthen HB.out hb2)
        have c2 := K2.out w2 B2.out
        clear hb2 EN c0
        go_wp2_with fail
        go_roundw
        case rel => exact ⟨j + 1, acc2, m2, by rw [← J1.out], rfl, by go_num, by omega, h2, LA, ED2, B2⟩
        case measure => simp [intOf]; omega
      | true =>
        have ED2 := kd (show (acc ++ byteL m ++ escT k pn ++ [61] ++ escT k pv) ++ wrT k (byteL m2) (byteL m2) (l.drop (j + 1)) = W by rw [← ED.out]; simp)
        have LA : (acc ++ byteL m ++ escT k pn ++ [61] ++ escT k pv).length ≤ (j + 1) * 25000000 := by rw [List.length_append, List.length_append, List.length_append, List.length_append, LM]; simp; omega
        have S1 := num_size (acc ++ byteL m ++ escT k pn)
        have J2 := kd (show strOfNums (acc ++ byteL m ++ escT k pn) ++ ⟨#[61]⟩ ++ strOfNums (escT k pv) = strOfNums (acc ++ byteL m ++ escT k pn ++ [61] ++ escT k pv) by rw [show (⟨#[61]⟩ : ByteArray) = strOfNums [61] by rfl, str_append, str_append])
        have LB : (acc ++ byteL m ++ escT k pn).length ≤ (j + 1) * 25000000 := by rw [List.length_append, List.length_append, LM]; omega
        have cd1 : ¬ (9223372036854775807 < (strOfNums (acc ++ byteL m ++ escT k pn)).size + 1) := by rw [S1]; omega
        have cd2 : ¬ (9223372036854775807 < (strOfNums (acc ++ byteL m ++ escT k pn)).size + 1 + (strOfNums (escT k pv)).size) := by rw [S1, SV]; omega
        clear ED
        generalize strOfNums (escT k pn) = en at *
        generalize strOfNums (escT k pv) = ev at *
        generalize hac : acc ++ byteL m ++ escT k pn = acc1 at *
        generalize hac2 : acc1 ++ [61] ++ escT k pv = acc2 at *
        clear hac hac2
        go_upto_region 7 with (go_at_call 17; refine (EN.out _).mono ?_; rintro _ w2 ⟨rfl, hb2⟩)
        have B2 := kd (bthen HB.out hb2)
        have c2 := K2.out w2 B2.out
        have c1 := K1.out w2 B2.out
        rw [J1.out]
        clear hb2 EN c0 cc1 cc2 J1
        go_wp2_with (go_at_call 17; refine (EV.out _).mono ?_; rintro _ w3 ⟨rfl, hb3⟩; have B3 := kd (bthen B2.out hb3))
        go_roundw
        case rel => exact ⟨j + 1, acc2, m2, by rw [← J2.out], rfl, by go_num, by omega, h2, LA, ED2, B3⟩
        case measure => simp [intOf]; omega
    · obtain rfl : j = n := by omega
      have hd2 : decide ((j : Int) < (j : Int)) = false := by simp
      have E := kd (show acc = W by rw [← HE.out, List.drop_of_length_le (by rw [HN.out]; exact Nat.le_refl _)]; simp [wrT])
      clear HE
      go_wp2_with fail
      go_ret
      exact ⟨by rw [← E.out]; rfl, HB.out⟩
end Go.Proofs.YthfonniieaiocaaGreatDoor
