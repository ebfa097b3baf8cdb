/- Contract: the reference's Bracketed. Contract: the reference's PrintParams. Contract: address.Get; the reference's Get on these parameters. Contracts: Set, the program's and the reference's. -/
import Derived.Test.YthfonniieaiocaaGreatDoorWp
import Derived.Test.YthfonniieaiocaaGreatDoorWt
import Derived.Test.YthfonniieaiocaaGreatDoorTf
import Derived.Test.YthfonniieaiocaaGreatDoorXv
import Derived.BigQuiet
import Derived.Deep.CutBlock
import Derived.Deep.DeepCutAuto
import Derived.Test.YthfonniieaiocaaGreatDoorUh
import Derived.Test.YthfonniieaiocaaGreatDoorXf
set_option linter.unusedVariables false
set_option linter.unusedSimpArgs false
set_option maxRecDepth 100000
namespace Go.Proofs.YthfonniieaiocaaGreatDoor
open Go.RowKit

set_option maxHeartbeats 1000000 in
theorem rbrack_any (v : List Int) (w : World) (hv : By v) (hl : v.length ≤ 4000000) : Calls Tryz.prog 117 #[.string (strOfNums v)] w fun e w' => e = .returned (.bool (brackL v)) ∧ Below w.heap.size w w' := by
  have HO := kd (rhost_any (strOfNums v) w (by rw [num_size]; exact hl))
  rw [byteL_str hv] at HO
  have BE := kd (show brackL v = ((hostL v == some v) && v.getD 0 0 == 91) from rfl)
  have HQ := kd (fun h (e : hostL v = some h) => toList_beq (host_by e hv) hv)
  have J0 := kd (fun (h : 1 ≤ v.length) => fun w => idx_str (strOfNums v) (i := 0) (by rw [num_size]; omega) (z := 0) rfl w)
  rw [byteL_str hv] at J0
  generalize brackL v = B at *
  clear hl
  cases hh : hostL v with
  | none =>
    rw [hh, show hostV none = .tuple #[.string ⟨#[]⟩, .bool false] from rfl] at HO
    have E := kd (show B = false by rw [BE.out, hh]; rfl)
    clear BE J0 HQ hh hv
    go_enter Tryz.func117, Tryz.ntmps117
    go_wp2_with fail
    refine HO.out.mono ?_
    rintro _ w2 ⟨rfl, hb⟩
    have B2 := kd hb
    clear hb HO
    go_wp2_with fail
    go_ret
    exact ⟨by rw [E.out]; rfl, B2.out⟩
  | some h =>
    have q2 := HQ.out h hh
    have j0 := J0.out (by
      cases v with
      | nil => rw [show hostL [] = none by decide] at hh; cases hh
      | cons a r => simp)
    have BE2 := kd (show B = ((h == v) && v.getD 0 0 == 91) by rw [BE.out, hh]; rfl)
    rw [hh, show hostV (some h) = .tuple #[.string (strOfNums h), .bool true] from rfl] at HO
    clear BE J0 HQ hh hv
    generalize (h == v) = b at *
    generalize strOfNums h = sh at *
    go_enter Tryz.func117, Tryz.ntmps117
    go_wp2_with fail
    refine HO.out.mono ?_
    rintro _ w2 ⟨rfl, hb⟩
    have B2 := kd hb
    clear hb HO
    cases b with
    | false =>
      clear j0
      go_wp2_with fail
      go_ret
      exact ⟨by rw [BE2.out]; rfl, B2.out⟩
    | true =>
      generalize v.getD 0 0 = c0 at *
      go_wp2_with fail
      go_ret
      exact ⟨by rw [BE2.out]; simp, B2.out⟩
end Go.Proofs.YthfonniieaiocaaGreatDoor
namespace Go.Proofs.YthfonniieaiocaaGreatDoor
open Go.RowKit

theorem tok_clean {v : List Int} (h : isToken v = true) : clean v = true := by
  unfold clean
  rw [List.all_eq_true]
  intro c hc
  have h2 := (tok_all h).2 c hc
  unfold isTok at h2
  unfold isCtl
  simp only [Bool.or_eq_true, Bool.and_eq_true, decide_eq_true_eq, beq_iff_eq] at h2
  simp
  omega
theorem brack_clean {v : List Int} (h : brackL v = true) : clean v = true := by
  obtain ⟨_, g, rfl, hg⟩ := brack_form h
  unfold clean
  rw [List.all_eq_true]
  intro c hc
  have h2 : c = 91 ∨ c = 93 ∨ c = 58 ∨ 0 ≤ hexV c := by
    rcases List.mem_cons.1 hc with rfl | hc
    · exact .inl rfl
    · rcases List.mem_append.1 hc with hc | hc
      · rcases hg c hc with h | h
        · exact .inr (.inr (.inl h))
        · exact .inr (.inr (.inr h))
      · exact .inr (.inl (by simpa using hc))
  unfold hexV at h2
  unfold isCtl
  simp
  omega
def refP (p : Pm) : Bool := isToken p.n && ((lowS p.n == p.n) && (clean p.v && (p.h || p.v.isEmpty)))
def txtP (p : Pm) : List Int := 59 :: (p.n ++ if p.h = true then 61 :: valT p.v else [])
theorem pmV_ref (p : Pm) : pmV p = if refP p = true then some (txtP p) else none := by
  obtain ⟨n, v, h⟩ := p
  unfold refP txtP
  dsimp only
  cases ht : isToken n with
  | false => rw [pmV_tok ht]; rfl
  | true =>
    by_cases hl : lowS n = n
    · rw [show (lowS n == n) = true by simpa using hl]
      cases h with
      | false =>
        rw [pmV_has ht hl]
        cases v with
        | nil => simp [clean]
        | cons a r => simp
      | true =>
        rw [pmV_val ht hl]
        unfold valT
        by_cases hv : isToken v = true ∨ brackL v = true
        · have hc : clean v = true := hv.elim tok_clean brack_clean
          rw [if_pos hv, if_pos hv, hc]; rfl
        · rw [if_neg hv, if_neg hv]; cases clean v <;> rfl
    · rw [pmV_low hl, show (lowS n == n) = false by simpa using hl]; rfl
structure PpS (l : List Pm) (j : Nat) (xs : List Int) (R : Option (List Int)) : Prop where
  le : j ≤ 16
  lo : ∀ q ∈ l.take j, lowS q.n = q.n
  s : l.length ≤ 16 → R = (ppsN (l.drop j) (l.take j)).map fun s => xs ++ s
  b : 16 < l.length → R = none
theorem PpS.start (l : List Pm) : PpS l 0 [] (ppsL l) := by
  refine ⟨Nat.zero_le _, fun q hq => by simp at hq, fun h => ?_, fun h => ?_⟩
  · unfold ppsL; rw [if_neg (by omega), List.drop_zero, List.take_zero]; cases ppsN l [] <;> rfl
  · unfold ppsL; rw [if_pos h]
theorem PpS.room {l : List Pm} {j : Nat} {xs : List Int} {R : Option (List Int)} {p : Pm} (h : PpS l j xs R) (hj : j < l.length) (hr : refP p = true) : roomF (l.take j) p.n = if holdsL (l.take j) p.n = true then 7 else if 16 ≤ j then 4 else 0 := by
  unfold refP at hr
  simp only [Bool.and_eq_true, beq_iff_eq] at hr
  have hp := hr.2.1
  unfold roomF holdsL
  rw [List.length_take, Nat.min_eq_left (by omega)]
  have : ((l.take j).any fun q => lowS q.n == lowS p.n) = (l.take j).any fun q => q.n == p.n := by
    rw [Bool.eq_iff_iff, List.any_eq_true, List.any_eq_true]
    constructor
    · rintro ⟨q, hq, e⟩
      exact ⟨q, hq, by rw [h.lo q hq, hp] at e; exact e⟩
    · rintro ⟨q, hq, e⟩
      exact ⟨q, hq, by rw [h.lo q hq, hp]; exact e⟩
  rw [this]
def goodB (l : List Pm) (j : Nat) (p : Pm) : Bool := refP p && (roomF (l.take j) p.n == 0)
theorem PpS.bad {l : List Pm} {j : Nat} {xs : List Int} {R : Option (List Int)} {p : Pm} (h : PpS l j xs R) (hp : l[j]? = some p) (hb : goodB l j p = false) : R = none := by
  have hj : j < l.length := (List.getElem?_eq_some_iff.1 hp).1
  by_cases hl : 16 < l.length
  · exact h.b hl
  · rw [h.s (by omega), dropPm hp, ppsN_cons]
    by_cases ho : holdsL (l.take j) p.n = true
    · rw [if_pos ho]; rfl
    · rw [if_neg ho, pmV_ref]
      unfold goodB at hb
      cases hr : refP p with
      | false => rw [if_neg (by decide)]; rfl
      | true =>
        rw [hr, h.room hj hr, if_neg ho, if_neg (by omega)] at hb
        cases hb
theorem PpS.next {l : List Pm} {j : Nat} {xs : List Int} {R : Option (List Int)} {p : Pm} (h : PpS l j xs R) (hp : l[j]? = some p) (hb : goodB l j p = true) : PpS l (j + 1) (xs ++ txtP p) R := by
  have hj : j < l.length := (List.getElem?_eq_some_iff.1 hp).1
  unfold goodB at hb
  simp only [Bool.and_eq_true, beq_iff_eq] at hb
  obtain ⟨hr, hm⟩ := hb
  rw [h.room hj hr] at hm
  have ho : ¬ holdsL (l.take j) p.n = true := fun ho => by rw [if_pos ho] at hm; cases hm
  rw [if_neg ho] at hm
  have h16 : ¬ 16 ≤ j := fun h16 => by rw [if_pos h16] at hm; cases hm
  have ht : l.take (j + 1) = l.take j ++ [p] := by rw [List.take_add_one, hp]; rfl
  refine ⟨by omega, fun q hq => ?_, fun hl => ?_, h.b⟩
  · rw [ht] at hq
    rcases List.mem_append.1 hq with hq | hq
    · exact h.lo q hq
    · rw [List.mem_singleton] at hq
      subst hq
      unfold refP at hr
      simp only [Bool.and_eq_true, beq_iff_eq] at hr
      exact hr.2.1
  · rw [h.s hl, dropPm hp, ppsN_cons, if_neg ho, pmV_ref, if_pos hr, ht]
    cases ppsN (l.drop (j + 1)) (l.take j ++ [p]) with
    | none => rfl
    | some s => simp
theorem PpS.end {l : List Pm} {xs : List Int} {R : Option (List Int)} (h : PpS l l.length xs R) : R = some xs := by
  rw [h.s h.le, List.drop_length]; simp [ppsN]
theorem roomF_is (l : List Pm) (n : List Int) : roomF l n = 0 ∨ roomF l n = 4 ∨ roomF l n = 7 := by
  unfold roomF
  split
  · exact .inr (.inr rfl)
  · split
    · exact .inr (.inl rfl)
    · exact .inl rfl
set_option maxHeartbeats 8000000 in
theorem rpprint_any (A : Option Addr) (n c : Nat) (l : List Pm) (w : World) (hA : Rds w w.heap.size A (pms l)) (hn : l.length = n) (hc : n ≤ c) (hN : n ≤ 16000000) (hl : ∀ p ∈ l, pmSz p) :
    Calls Tryz.prog 49 #[.slice A n c] w (PriP w (ppsL l)) := by
  have HN := kd hn; have HL := kd hl
  have RA := kd (fun wr (hb : Below w.heap.size w wr) => show Rds wr wr.heap.size A (pms l) from (hA.below hb).up hb.size)
  have BAD := kd (fun w' h hb => PriP.bad (w := w) (w' := w') (R := ppsL l) h hb)
  have GOOD := kd (fun w' s h hb => PriP.good (w := w) (w' := w') (R := ppsL l) (s := s) h hb)
  have PS0 := kd (PpS.start l)
  generalize PriP w (ppsL l) = PP at *
  generalize ppsL l = R at *
  clear hA hn hl
  go_enter Tryz.func49, Tryz.ntmps49
  go_wp2_with fail
  go_loopw [4, 5] (fun vt vj wr => ∃ (j : Nat) (xs : List Int), j ≤ n ∧ j ≤ 16 ∧ xs.length ≤ 13000000 * j ∧ vt = .string (strOfNums xs) ∧ vj = .int .i64 j ∧ Hid (Below w.heap.size w wr) ∧ Hid (PpS l j xs R)) (fun _ v _ => n - (intOf v).toNat)
  case atStart => exact ⟨0, [], Nat.zero_le _, Nat.zero_le _, Nat.zero_le _, rfl, rfl, kd (Below.refl _ _), PS0⟩
  case round =>
    clear PS0
    obtain ⟨j, xs, hj, hj16, hxl, rfl, rfl, HB, PS⟩ := hrel
    by_cases hlt : j < n
    · have hd2 : decide ((j : Int) < (n : Int)) = true := by simp; omega
      obtain ⟨p, hp⟩ : ∃ p, l[j]? = some p := ⟨_, List.getElem?_eq_getElem (by rw [HN.out]; exact hlt)⟩
      have PB := kd (fun h => PS.out.bad hp h)
      have PN := kd (fun h => PS.out.next hp h)
      obtain ⟨x1, o1, rfl, hx1, hc1⟩ := RA.out wr HB.out (by rw [pms_len, HN.out]; omega)
      have G1 := kd (show wr.rangeAt x1 (o1 + j * 3) (pmC p) from fun i v hv => Rds.range2 hc1 (j * 3) _ (pms_at hp) i v hv)
      obtain ⟨pnb, pvb, pnl, pvl⟩ := HL.out p (List.mem_of_getElem? hp)
      have RMA := kd (fun W (hb : Below w.heap.size w W) => rroom_any (some ⟨x1, o1, none⟩) j c (l.take j) p.n W (rds_take (RA.out W hb) j) (by rw [List.length_take, HN.out]; omega) (fun q hq => HL.out q (List.mem_of_mem_take hq)) (by omega) pnb pnl)
      have GE := kd (show goodB l j p = ((isToken p.n && ((lowS p.n == p.n) && (clean p.v && (p.h || p.v.isEmpty)))) && (roomF (l.take j) p.n == 0)) from rfl)
      have RIS := kd (roomF_is (l.take j) p.n)
      have TE := kd (show txtP p = 59 :: (p.n ++ if p.h = true then 61 :: valT p.v else []) from rfl)
      generalize roomF (l.take j) p.n = rm at *
      generalize txtP p = tx at *
      generalize goodB l j p = gb at *
      clear hc1 hp PS
      obtain ⟨pn, pv, ph⟩ := p
      dsimp only at pnb pvb pnl pvl RMA GE TE
      have G2 := kd (show wr.rangeAt x1 (o1 + j * 3) [.string (strOfNums pn), .string (strOfNums pv), .bool ph] from G1.out)
      have TK := kd (fun w => reftoken_any (strOfNums pn) w (by rw [num_size]; omega))
      have TV := kd (fun w => reftoken_any (strOfNums pv) w (by rw [num_size]; omega))
      have LW := kd (fun w => reflower_any (strOfNums pn) w (by rw [num_size]; exact pnl))
      have PL := kd (fun w => (rplain_any (strOfNums pv) w (by rw [num_size]; exact pvl)).mono fun e w' h => (show e = .returned (.bool (clean (byteL (strOfNums pv)))) ∧ Below w.heap.size w w' from ⟨h.1, h.2 ▸ Below.refl _ _⟩))
      have QV := kd (fun w => refquote_any (strOfNums pv) w (by rw [num_size]; exact pvl))
      have BV := kd (fun w => rbrack_any pv w pvb pvl)
      rw [byteL_str pnb] at TK LW
      rw [byteL_str pvb] at TV PL QV
      have LQ := kd (toList_beq (lowS_by pnb) pnb)
      have VEM := kd (empty_beq pv)
      have B1 := kd (bthen HB.out ((Below.refl wr.heap.size wr).alloc (Nat.le_refl _) (.cells ([.string (strOfNums pn), .string (strOfNums pv), .bool ph] : List Value).toArray 56)))
      have RP := kd (Row.new wr 56 [.string (strOfNums pn), .string (strOfNums pv), .bool ph])
      clear G1 HB
      go_upto_region 6 with (with_reducible refine wpList_load_mid rfl 56 (.tmp 17) rfl x1 (o1 + j * 3) rfl [.string (strOfNums pn), .string (strOfNums pv), .bool ph] _ G2.out Tryz.underlying56 rfl (sizePm _ _ _) ?_)
      generalize wr.alloc (.cells #[.string (strOfNums pn), .string (strOfNums pv), .bool ph] 56) = w2 at *
      generalize wr.heap.size = pb at *
      clear G2
      have jc : (j : Int) ≤ (c : Int) := by omega
      go_cut [55] (fun v wx => v = .bool (!gb) ∧ Hid (Below w2.heap.size w2 wx))
      case first =>
        have q0 : ∀ x : BW w2, x.w.cell? ⟨pb, 0, none⟩ = some (.string (strOfNums pn)) := fun x => RP.out.later x 0
        have q1 : ∀ x : BW w2, x.w.cell? ⟨pb, 1, none⟩ = some (.string (strOfNums pv)) := fun x => RP.out.later x 1
        have q2 : ∀ x : BW w2, x.w.cell? ⟨pb, 2, none⟩ = some (.bool ph) := fun x => RP.out.later x 2
        have RM2 := kd (fun x : BW w2 => RMA.out x.w (bthen B1.out x.h))
        have LQ2 := LQ.out
        have VE2 := VEM.out
        clear TE LQ VEM RMA PB PN BV QV TV
        generalize (lowS pn == pn) = ln at *
        generalize isToken pn = tn at *
        generalize clean pv = cv at *
        generalize pv.isEmpty = ve at *
        cases tn with
        | false =>
          obtain rfl : gb = false := GE.out
          refine region_bw (by kernel_rfl) (by kernel_rfl) ?_
          repeat go_big_quiet_step (fail)
          go_big_quiet_step (exact calls_bw (TK.out _))
          repeat go_big_quiet_step (fail)
          refine wpQuiet_nil ?_
          rintro _ ⟨y, rfl⟩
          go_wp2_with fail
          go_meet
          exact ⟨rfl, kd y.h⟩
        | true =>
          cases ln with
          | false =>
            obtain rfl : gb = false := GE.out
            refine region_bw (by kernel_rfl) (by kernel_rfl) ?_
            repeat go_big_quiet_step (fail)
            go_big_quiet_step (exact calls_bw (TK.out _))
            repeat go_big_quiet_step (fail)
            go_big_quiet_step (exact calls_bw (LW.out _))
            repeat go_big_quiet_step (fail)
            refine wpQuiet_nil ?_
            rintro _ ⟨y, rfl⟩
            go_wp2_with fail
            go_meet
            exact ⟨rfl, kd y.h⟩
          | true =>
            cases cv with
            | false =>
              obtain rfl : gb = false := GE.out
              refine region_bw (by kernel_rfl) (by kernel_rfl) ?_
              repeat go_big_quiet_step (fail)
              go_big_quiet_step (exact calls_bw (TK.out _))
              repeat go_big_quiet_step (fail)
              go_big_quiet_step (exact calls_bw (LW.out _))
              repeat go_big_quiet_step (fail)
              go_big_quiet_step (exact calls_bw (PL.out _))
              repeat go_big_quiet_step (fail)
              refine wpQuiet_nil ?_
              rintro _ ⟨y, rfl⟩
              go_wp2_with fail
              go_meet
              exact ⟨rfl, kd y.h⟩
            | true =>
              cases ph with
              | true =>
                rcases RIS.out with rfl | rfl | rfl
                · obtain rfl : gb = true := GE.out
                  refine region_bw (by kernel_rfl) (by kernel_rfl) ?_
                  repeat go_big_quiet_step (fail)
                  go_big_quiet_step (exact calls_bw (TK.out _))
                  repeat go_big_quiet_step (fail)
                  go_big_quiet_step (exact calls_bw (LW.out _))
                  repeat go_big_quiet_step (fail)
                  go_big_quiet_step (exact calls_bw (PL.out _))
                  repeat go_big_quiet_step (fail)
                  go_big_quiet_step (exact calls_bw (RM2.out _))
                  repeat go_big_quiet_step (fail)
                  refine wpQuiet_nil ?_
                  rintro _ ⟨y, rfl⟩
                  go_wp2_with fail
                  go_meet
                  exact ⟨rfl, kd y.h⟩
                · obtain rfl : gb = false := GE.out
                  refine region_bw (by kernel_rfl) (by kernel_rfl) ?_
                  repeat go_big_quiet_step (fail)
                  go_big_quiet_step (exact calls_bw (TK.out _))
                  repeat go_big_quiet_step (fail)
                  go_big_quiet_step (exact calls_bw (LW.out _))
                  repeat go_big_quiet_step (fail)
                  go_big_quiet_step (exact calls_bw (PL.out _))
                  repeat go_big_quiet_step (fail)
                  go_big_quiet_step (exact calls_bw (RM2.out _))
                  repeat go_big_quiet_step (fail)
                  refine wpQuiet_nil ?_
                  rintro _ ⟨y, rfl⟩
                  go_wp2_with fail
                  go_meet
                  exact ⟨rfl, kd y.h⟩
                · obtain rfl : gb = false := GE.out
                  refine region_bw (by kernel_rfl) (by kernel_rfl) ?_
                  repeat go_big_quiet_step (fail)
                  go_big_quiet_step (exact calls_bw (TK.out _))
                  repeat go_big_quiet_step (fail)
                  go_big_quiet_step (exact calls_bw (LW.out _))
                  repeat go_big_quiet_step (fail)
                  go_big_quiet_step (exact calls_bw (PL.out _))
                  repeat go_big_quiet_step (fail)
                  go_big_quiet_step (exact calls_bw (RM2.out _))
                  repeat go_big_quiet_step (fail)
                  refine wpQuiet_nil ?_
                  rintro _ ⟨y, rfl⟩
                  go_wp2_with fail
                  go_meet
                  exact ⟨rfl, kd y.h⟩
              | false =>
                cases ve with
                | false =>
                  obtain rfl : gb = false := GE.out
                  refine region_bw (by kernel_rfl) (by kernel_rfl) ?_
                  repeat go_big_quiet_step (fail)
                  go_big_quiet_step (exact calls_bw (TK.out _))
                  repeat go_big_quiet_step (fail)
                  go_big_quiet_step (exact calls_bw (LW.out _))
                  repeat go_big_quiet_step (fail)
                  go_big_quiet_step (exact calls_bw (PL.out _))
                  repeat go_big_quiet_step (fail)
                  refine wpQuiet_nil ?_
                  rintro _ ⟨y, rfl⟩
                  go_wp2_with fail
                  go_meet
                  exact ⟨rfl, kd y.h⟩
                | true =>
                  rcases RIS.out with rfl | rfl | rfl
                  · obtain rfl : gb = true := GE.out
                    refine region_bw (by kernel_rfl) (by kernel_rfl) ?_
                    repeat go_big_quiet_step (fail)
                    go_big_quiet_step (exact calls_bw (TK.out _))
                    repeat go_big_quiet_step (fail)
                    go_big_quiet_step (exact calls_bw (LW.out _))
                    repeat go_big_quiet_step (fail)
                    go_big_quiet_step (exact calls_bw (PL.out _))
                    repeat go_big_quiet_step (fail)
                    go_big_quiet_step (exact calls_bw (RM2.out _))
                    repeat go_big_quiet_step (fail)
                    refine wpQuiet_nil ?_
                    rintro _ ⟨y, rfl⟩
                    go_wp2_with fail
                    go_meet
                    exact ⟨rfl, kd y.h⟩
                  · obtain rfl : gb = false := GE.out
                    refine region_bw (by kernel_rfl) (by kernel_rfl) ?_
                    repeat go_big_quiet_step (fail)
                    go_big_quiet_step (exact calls_bw (TK.out _))
                    repeat go_big_quiet_step (fail)
                    go_big_quiet_step (exact calls_bw (LW.out _))
                    repeat go_big_quiet_step (fail)
                    go_big_quiet_step (exact calls_bw (PL.out _))
                    repeat go_big_quiet_step (fail)
                    go_big_quiet_step (exact calls_bw (RM2.out _))
                    repeat go_big_quiet_step (fail)
                    refine wpQuiet_nil ?_
                    rintro _ ⟨y, rfl⟩
                    go_wp2_with fail
                    go_meet
                    exact ⟨rfl, kd y.h⟩
                  · obtain rfl : gb = false := GE.out
                    refine region_bw (by kernel_rfl) (by kernel_rfl) ?_
                    repeat go_big_quiet_step (fail)
                    go_big_quiet_step (exact calls_bw (TK.out _))
                    repeat go_big_quiet_step (fail)
                    go_big_quiet_step (exact calls_bw (LW.out _))
                    repeat go_big_quiet_step (fail)
                    go_big_quiet_step (exact calls_bw (PL.out _))
                    repeat go_big_quiet_step (fail)
                    go_big_quiet_step (exact calls_bw (RM2.out _))
                    repeat go_big_quiet_step (fail)
                    refine wpQuiet_nil ?_
                    rintro _ ⟨y, rfl⟩
                    go_wp2_with fail
                    go_meet
                    exact ⟨rfl, kd y.h⟩
      case rest =>
      obtain ⟨rfl, hbc⟩ := hcut
      have B2 := kd (bthen B1.out hbc.out)
      replace RP := kd (RP.out.below hbc.out)
      clear hbc B1 TK LW PL LQ VEM RMA RIS jc
      have k0 : wc.cell? ⟨pb, 0, none⟩ = some (.string (strOfNums pn)) := RP.out.cell 0
      have k1 : wc.cell? ⟨pb, 1, none⟩ = some (.string (strOfNums pv)) := RP.out.cell 1
      have k2 : wc.cell? ⟨pb, 2, none⟩ = some (.bool ph) := RP.out.cell 2
      cases gb with
      | false =>
        have E := kd (PB.out rfl)
        clear PB PN GE TV BV QV TE
        go_wp2_with fail
        first
          | exact BAD.out _ E.out B2.out
          | (go_ret2; exact BAD.out _ E.out B2.out)
      | true =>
        have CL := kd (show clean pv = true by
          have := GE.out.symm
          simp only [Bool.and_eq_true] at this
          exact this.1.2.2.1)
        have NX0 := kd (PN.out rfl)
        have SX := num_size xs; have SN := num_size pn
        have c1 : ¬ (9223372036854775807 < (strOfNums xs).size + 1) := by rw [SX]; omega
        have c2 : ¬ (9223372036854775807 < (strOfNums xs).size + 1 + (strOfNums pn).size) := by rw [SX, SN]; omega
        have JA := kd (show strOfNums xs ++ ⟨#[59]⟩ ++ strOfNums pn = strOfNums (xs ++ (59 :: pn)) by rw [show (⟨#[59]⟩ : ByteArray) = strOfNums [59] by rfl, str_append, str_append]; simp)
        clear PB PN GE
        go_upto_region 9 with (fail)
        rw [JA.out]
        clear k0 c1 c2 SX SN JA BAD
        cases ph with
        | false =>
          have TE2 := kd (show tx = 59 :: pn by rw [TE.out]; simp)
          have NX := kd (show PpS l (j + 1) (xs ++ (59 :: pn)) R by rw [← TE2.out]; exact NX0.out)
          have LL : (xs ++ (59 :: pn)).length ≤ 13000000 * (j + 1) := by simp; omega
          have T0 := kd (rfl : strOfNums (xs ++ (59 :: pn)) = strOfNums (xs ++ (59 :: pn)))
          clear TV BV QV TE NX0 CL
          go_wp2_with fail
          go_roundw
          case rel => exact ⟨j + 1, xs ++ (59 :: pn), by omega, NX.out.le, LL, by first | exact congrArg Value.string T0.out | rfl, by go_num, B2, NX⟩
          case measure => simp [intOf]; omega
        | true =>
          cases htk : isToken pv with
          | true =>
            have TE2 := kd (show tx = 59 :: (pn ++ 61 :: pv) by rw [TE.out]; unfold valT; rw [if_pos rfl, if_pos (.inl htk)])
            have NX := kd (show PpS l (j + 1) (xs ++ (59 :: (pn ++ 61 :: pv))) R by rw [← TE2.out]; exact NX0.out)
            rw [htk] at TV
            clear BV QV TE NX0 CL htk
            have T0 := kd (show strOfNums (xs ++ (59 :: pn)) ++ ⟨#[61]⟩ ++ strOfNums pv = strOfNums (xs ++ (59 :: (pn ++ 61 :: pv))) by rw [show (⟨#[61]⟩ : ByteArray) = strOfNums [61] by rfl, str_append, str_append]; simp)
            have S8 := num_size (xs ++ (59 :: pn)); have SV := num_size (pv)
            have L8 : (xs ++ (59 :: pn)).length = xs.length + 1 + pn.length := by simp; omega
            have c3 : ¬ (9223372036854775807 < (strOfNums (xs ++ (59 :: pn))).size + 1) := by rw [S8, L8]; omega
            have c4 : ¬ (9223372036854775807 < (strOfNums (xs ++ (59 :: pn))).size + 1 + (strOfNums pv).size) := by rw [S8, L8, SV]; omega
            have LL : (xs ++ (59 :: (pn ++ 61 :: pv))).length ≤ 13000000 * (j + 1) := by simp; omega
            clear S8 SV L8
            generalize strOfNums (xs ++ (59 :: pn)) = s8 at *
            go_wp2_with fail
            refine (TV.out _).mono ?_
            rintro _ w5 ⟨rfl, hb5⟩
            have B5 := kd (bthen B2.out hb5)
            have k1' : w5.cell? ⟨pb, 1, none⟩ = some (.string (strOfNums pv)) := (RP.out.below hb5).cell 1
            clear hb5 TV k1 k2
            go_wp2_with fail
            go_roundw
            case rel => exact ⟨j + 1, xs ++ (59 :: (pn ++ 61 :: pv)), by omega, NX.out.le, LL, by first | exact congrArg Value.string T0.out | rfl, by go_num, B5, NX⟩
            case measure => simp [intOf]; omega
          | false =>
            rw [htk] at TV
            cases hbr : brackL pv with
            | true =>
              have TE2 := kd (show tx = 59 :: (pn ++ 61 :: pv) by rw [TE.out]; unfold valT; rw [if_pos rfl, if_pos (.inr hbr)])
              have NX := kd (show PpS l (j + 1) (xs ++ (59 :: (pn ++ 61 :: pv))) R by rw [← TE2.out]; exact NX0.out)
              rw [hbr] at BV
              clear QV TE NX0 CL htk hbr
              have T0 := kd (show strOfNums (xs ++ (59 :: pn)) ++ ⟨#[61]⟩ ++ strOfNums pv = strOfNums (xs ++ (59 :: (pn ++ 61 :: pv))) by rw [show (⟨#[61]⟩ : ByteArray) = strOfNums [61] by rfl, str_append, str_append]; simp)
              have S8 := num_size (xs ++ (59 :: pn)); have SV := num_size (pv)
              have L8 : (xs ++ (59 :: pn)).length = xs.length + 1 + pn.length := by simp; omega
              have c3 : ¬ (9223372036854775807 < (strOfNums (xs ++ (59 :: pn))).size + 1) := by rw [S8, L8]; omega
              have c4 : ¬ (9223372036854775807 < (strOfNums (xs ++ (59 :: pn))).size + 1 + (strOfNums pv).size) := by rw [S8, L8, SV]; omega
              have LL : (xs ++ (59 :: (pn ++ 61 :: pv))).length ≤ 13000000 * (j + 1) := by simp; omega
              clear S8 SV L8
              generalize strOfNums (xs ++ (59 :: pn)) = s8 at *
              go_wp2_with fail
              refine (TV.out _).mono ?_
              rintro _ w5 ⟨rfl, hb5⟩
              have B5 := kd (bthen B2.out hb5)
              replace RP := kd (RP.out.below hb5)
              have k1' : w5.cell? ⟨pb, 1, none⟩ = some (.string (strOfNums pv)) := RP.out.cell 1
              clear hb5 TV k1 k2
              go_wp2_with fail
              refine (BV.out _).mono ?_
              rintro _ w6 ⟨rfl, hb6⟩
              have B6 := kd (bthen B5.out hb6)
              have k1 : w6.cell? ⟨pb, 1, none⟩ = some (.string (strOfNums pv)) := (RP.out.below hb6).cell 1
              clear hb6 BV k1'
              go_wp2_with fail
              go_roundw
              case rel => exact ⟨j + 1, xs ++ (59 :: (pn ++ 61 :: pv)), by omega, NX.out.le, LL, by first | exact congrArg Value.string T0.out | rfl, by go_num, B6, NX⟩
              case measure => simp [intOf]; omega
            | false =>
              have TE2 := kd (show tx = 59 :: (pn ++ 61 :: quoteL pv) by rw [TE.out]; unfold valT; rw [if_pos rfl, if_neg (by rw [htk, hbr]; decide)])
              have NX := kd (show PpS l (j + 1) (xs ++ (59 :: (pn ++ 61 :: quoteL pv))) R by rw [← TE2.out]; exact NX0.out)
              rw [hbr] at BV
              rw [quoteV_yes CL.out] at QV
              have VL : (quoteL pv).length ≤ 8000002 := by have := quote_len pv; omega
              clear TE NX0 CL htk hbr
              have T0 := kd (show strOfNums (xs ++ (59 :: pn)) ++ ⟨#[61]⟩ ++ strOfNums (quoteL pv) = strOfNums (xs ++ (59 :: (pn ++ 61 :: (quoteL pv)))) by rw [show (⟨#[61]⟩ : ByteArray) = strOfNums [61] by rfl, str_append, str_append]; simp)
              have S8 := num_size (xs ++ (59 :: pn)); have SV := num_size ((quoteL pv))
              have L8 : (xs ++ (59 :: pn)).length = xs.length + 1 + pn.length := by simp; omega
              have c3 : ¬ (9223372036854775807 < (strOfNums (xs ++ (59 :: pn))).size + 1) := by rw [S8, L8]; omega
              have c4 : ¬ (9223372036854775807 < (strOfNums (xs ++ (59 :: pn))).size + 1 + (strOfNums (quoteL pv)).size) := by rw [S8, L8, SV]; omega
              have LL : (xs ++ (59 :: (pn ++ 61 :: (quoteL pv)))).length ≤ 13000000 * (j + 1) := by simp; omega
              clear S8 SV L8
              generalize strOfNums (xs ++ (59 :: pn)) = s8 at *
              go_wp2_with fail
              refine (TV.out _).mono ?_
              rintro _ w5 ⟨rfl, hb5⟩
              have B5 := kd (bthen B2.out hb5)
              replace RP := kd (RP.out.below hb5)
              have k1' : w5.cell? ⟨pb, 1, none⟩ = some (.string (strOfNums pv)) := RP.out.cell 1
              clear hb5 TV k1 k2
              go_wp2_with fail
              refine (BV.out _).mono ?_
              rintro _ w6 ⟨rfl, hb6⟩
              have B6 := kd (bthen B5.out hb6)
              replace RP := kd (RP.out.below hb6)
              have k1 : w6.cell? ⟨pb, 1, none⟩ = some (.string (strOfNums pv)) := RP.out.cell 1
              have k2 : w6.cell? ⟨pb, 2, none⟩ = some (.bool true) := RP.out.cell 2
              clear hb6 BV k1'
              go_wp2_with fail
              refine (QV.out _).mono ?_
              rintro _ w7 ⟨rfl, hb7⟩
              have B7 := kd (bthen B6.out hb7)
              clear hb7 QV k1 k2
              go_wp2_with fail
              go_roundw
              case rel => exact ⟨j + 1, xs ++ (59 :: (pn ++ 61 :: quoteL pv)), by omega, NX.out.le, LL, by first | exact congrArg Value.string T0.out | rfl, by go_num, B7, NX⟩
              case measure => simp [intOf]; omega
    · obtain rfl : j = n := by omega
      have hd2 : decide ((j : Int) < (j : Int)) = false := by simp
      have E := kd (show R = some xs by have h := PS.out; rw [← HN.out] at h; exact h.end)
      clear PS
      go_wp2_with fail
      first
        | exact GOOD.out _ _ E.out HB.out
        | (go_ret2; exact GOOD.out _ _ E.out HB.out)
end Go.Proofs.YthfonniieaiocaaGreatDoor
namespace Go.Proofs.YthfonniieaiocaaGreatDoor
open Go.RowKit

def getL (l : List Pm) (nm : List Int) : Option (List Int) := (l.find? fun p => lowS p.n == lowS nm).map (·.v)
theorem getP_any (l : List Pm) (nm : List Int) : getP (l.map toPrm) nm = getL l nm := by
  unfold getP getL
  rw [List.find?_map, Option.map_map]
  rfl
theorem getL_yes {p : Pm} {r : List Pm} {nm : List Int} (h : (lowS p.n == lowS nm) = true) : getL (p :: r) nm = some p.v := by unfold getL; rw [List.find?_cons, h]; rfl
theorem getL_no {p : Pm} {r : List Pm} {nm : List Int} (h : (lowS p.n == lowS nm) = false) : getL (p :: r) nm = getL r nm := by unfold getL; rw [List.find?_cons, h]
theorem rget_any (A : Option Addr) (n c : Nat) (l : List Pm) (nm : List Int) (w : World) (hA : Rds w w.heap.size A (pms l)) (hn : l.length = n) (hl : ∀ p ∈ l, pmSz p) (hN : n ≤ 16000000) (hb : By nm) (hs : nm.length ≤ 4000000) :
    Calls Tryz.prog 51 #[.slice A n c, .string (strOfNums nm)] w fun e w' => e = .returned (getV (getL l nm)) ∧ Below w.heap.size w w' := by
  have h := get_any A n c (l.map toPrm) (strOfNums nm) w (by rw [prms_pms]; exact hA) (by rw [List.length_map]; exact hn) (fun p hp => by
    obtain ⟨q, hq, rfl⟩ := List.mem_map.1 hp
    exact hl q hq) hN (by rw [num_size]; exact hs)
  rw [byteL_str hb, getP_any] at h
  exact h
set_option maxHeartbeats 2000000 in
theorem aget_any (A : Option Addr) (n c : Nat) (l : List Pm) (nm : List Int) (w : World) (hA : Rds w w.heap.size A (pms l)) (hn : l.length = n) (hl : ∀ p ∈ l, pmSz p) (hN : n ≤ 16000000) (hb : By nm) (hs : nm.length ≤ 4000000) :
    Calls Tryz.prog 50 #[.slice A n c, .string (strOfNums nm)] w fun e w' => e = .returned (getV (getL l nm)) ∧ Below w.heap.size w w' := by
  have HN := kd hn; have HL := kd hl
  have RA := kd (fun wr (hb : Below w.heap.size w wr) => show Rds wr wr.heap.size A (pms l) from (hA.below hb).up hb.size)
  have LN := kd (fun w => adlower_any (strOfNums nm) w (by rw [num_size]; exact hs))
  rw [byteL_str hb] at LN
  have NB := kd hb
  clear hA hn hl
  obtain ⟨R, hR⟩ : ∃ R, getL l nm = R := ⟨_, rfl⟩
  have RE := kd hR
  rw [hR]
  clear hR
  go_enter Tryz.func50, Tryz.ntmps50
  go_wp2_with fail
  refine (LN.out _).mono ?_
  rintro _ w1 ⟨rfl, hb1⟩
  have B1 := kd hb1
  clear hb1 LN
  go_wp2_with fail
  go_loopw [12] (fun vj wr => ∃ j : Nat, j ≤ n ∧ vj = .int .i64 j ∧ Hid (Below w.heap.size w wr) ∧ Hid (getL (l.drop j) nm = R)) (fun v _ => n - (intOf v).toNat)
  case atStart => exact ⟨0, Nat.zero_le _, rfl, B1, kd (by rw [List.drop_zero]; exact RE.out)⟩
  case round =>
    clear RE B1
    obtain ⟨j, hj, rfl, HB, RX⟩ := hrel
    by_cases hlt : j < n
    · have hd2 : decide ((j : Int) < (n : Int)) = true := by simp; omega
      have hd : decide (j < n) = true := by simp [hlt]
      obtain ⟨p, hp⟩ : ∃ p, l[j]? = some p := ⟨_, List.getElem?_eq_getElem (by rw [HN.out]; exact hlt)⟩
      have RX2 := kd (show getL (p :: l.drop (j + 1)) nm = R by rw [← dropPm hp]; exact RX.out)
      obtain ⟨x1, o1, rfl, hx1, hc1⟩ := RA.out wr HB.out (by rw [pms_len, HN.out]; omega)
      have G1 := kd (show wr.rangeAt x1 (o1 + j * 3) (pmC p) from fun i v hv => Rds.range2 hc1 (j * 3) _ (pms_at hp) i v hv)
      obtain ⟨pnb, pvb, pnl, pvl⟩ := HL.out p (List.mem_of_getElem? hp)
      clear hc1 hp RX
      obtain ⟨pn, pv, ph⟩ := p
      dsimp only at pnb pvb pnl pvl
      have G2 := kd (show wr.rangeAt x1 (o1 + j * 3) [.string (strOfNums pn), .string (strOfNums pv), .bool ph] from G1.out)
      have LW := kd (fun w => adlower_any (strOfNums pn) w (by rw [num_size]; exact pnl))
      rw [byteL_str pnb] at LW
      have LQ := kd (toList_beq (lowS_by pnb) (lowS_by NB.out))
      have B1 := kd (bthen HB.out ((Below.refl wr.heap.size wr).alloc (Nat.le_refl _) (.cells ([.string (strOfNums pn), .string (strOfNums pv), .bool ph] : List Value).toArray 56)))
      have RP := kd (Row.new wr 56 [.string (strOfNums pn), .string (strOfNums pv), .bool ph])
      clear G1 HB
      go_upto_region 5 with (with_reducible refine wpList_load_mid rfl 56 (.tmp 14) rfl x1 (o1 + j * 3) rfl [.string (strOfNums pn), .string (strOfNums pv), .bool ph] _ G2.out Tryz.underlying56 rfl (sizePm _ _ _) ?_)
      generalize wr.alloc (.cells #[.string (strOfNums pn), .string (strOfNums pv), .bool ph] 56) = w2 at *
      generalize wr.heap.size = pb at *
      clear G2
      have k0 : w2.cell? ⟨pb, 0, none⟩ = some (.string (strOfNums pn)) := RP.out.cell 0
      go_wp2_with fail
      refine (LW.out _).mono ?_
      rintro _ w3 ⟨rfl, hb3⟩
      have B3 := kd (bthen B1.out hb3)
      have k1 : w3.cell? ⟨pb, 1, none⟩ = some (.string (strOfNums pv)) := (RP.out.below hb3).cell 1
      clear hb3 LW k0 RP B1
      have q0 := LQ.out
      clear LQ
      cases he : (lowS pn == lowS nm) with
      | true =>
        rw [he] at q0
        have E := kd (show R = some pv by rw [← RX2.out, getL_yes he])
        clear he RX2
        go_wp2_with fail
        first
          | exact ⟨by rw [E.out]; rfl, B3.out⟩
          | (go_ret2; exact ⟨by rw [E.out]; rfl, B3.out⟩)
      | false =>
        rw [he] at q0
        have E := kd (show getL (l.drop (j + 1)) nm = R by rw [← RX2.out, getL_no he])
        clear he RX2 k1
        go_wp2_with fail
        go_roundw
        case rel => exact ⟨j + 1, by omega, by go_num, B3, E⟩
        case measure => simp [intOf]; omega
    · obtain rfl : j = n := by omega
      have hd2 : decide ((j : Int) < (j : Int)) = false := by simp
      have E := kd (show R = none by rw [← RX.out, List.drop_of_length_le (by rw [HN.out]; exact Nat.le_refl _)]; rfl)
      clear RX
      go_wp2_with fail
      first
        | exact ⟨by rw [E.out]; rfl, HB.out⟩
        | (go_ret2; exact ⟨by rw [E.out]; rfl, HB.out⟩)
end Go.Proofs.YthfonniieaiocaaGreatDoor
namespace Go.Proofs.YthfonniieaiocaaGreatDoor
open Go.RowKit

def putPL : List Pm → List Int → List Int → List Pm
  | [], nm, v => [⟨lowS nm, v, true⟩]
  | p :: r, nm, v => if (lowS p.n == lowS nm) = true then ⟨p.n, v, true⟩ :: r else p :: putPL r nm v
theorem putPL_yes {p : Pm} {r : List Pm} {nm v : List Int} (h : (lowS p.n == lowS nm) = true) : putPL (p :: r) nm v = ⟨p.n, v, true⟩ :: r := by unfold putPL; rw [if_pos h]
theorem putPL_no {p : Pm} {r : List Pm} {nm v : List Int} (h : (lowS p.n == lowS nm) = false) : putPL (p :: r) nm v = p :: putPL r nm v := by
  conv => lhs; unfold putPL
  rw [if_neg (by rw [h]; decide)]
theorem putPL_len (l : List Pm) (nm v : List Int) : (putPL l nm v).length ≤ l.length + 1 := by
  induction l with
  | nil => exact Nat.le_refl _
  | cons p r ih =>
    cases h : (lowS p.n == lowS nm) with
    | true => rw [putPL_yes h]; simp
    | false => rw [putPL_no h]; simpa using ih
theorem putPL_find (l : List Pm) (nm v : List Int) : (findP (l.map toPrm) nm = none ∧ putPL l nm v = l ++ [⟨lowS nm, v, true⟩]) ∨ ∃ i p, findP (l.map toPrm) nm = some i ∧ l[i]? = some p ∧ putPL l nm v = l.take i ++ ⟨p.n, v, true⟩ :: l.drop (i + 1) := by
  induction l with
  | nil => exact .inl ⟨rfl, rfl⟩
  | cons q l ih =>
    unfold findP at ih ⊢
    rw [List.map_cons, List.findIdx?_cons]
    cases hq : (lowS q.n == lowS nm) with
    | true =>
      have hq2 : (lowS (toPrm q).n == lowS nm) = true := hq
      rw [putPL_yes hq]
      exact .inr ⟨0, q, by simp [hq2], rfl, by simp⟩
    | false =>
      have hq2 : (lowS (toPrm q).n == lowS nm) = false := hq
      rw [putPL_no hq]
      rcases ih with ⟨h1, h2⟩ | ⟨i, p, h1, h2, h3⟩
      · exact .inl ⟨by simp [h1, hq2], by rw [h2]; rfl⟩
      · exact .inr ⟨i + 1, p, by simp [h1, hq2], h2, by rw [h3]; simp⟩
theorem pms_at3 {l : List Pm} {j : Nat} {p : Pm} (h : l[j]? = some p) : (pms l)[j * 3 + 1]? = some (.string (strOfNums p.v)) ∧ (pms l)[j * 3 + 2]? = some (.bool p.h) := ⟨pms_at h 1 _ rfl, pms_at h 2 _ rfl⟩
theorem pms_put {l : List Pm} {j : Nat} {p : Pm} (h : l[j]? = some p) (v : List Int) : ((pms l).set (j * 3 + 1) (.string (strOfNums v))).set (j * 3 + 2) (.bool true) = pms (l.take j ++ ⟨p.n, v, true⟩ :: l.drop (j + 1)) := by
  have hj : j < l.length := (List.getElem?_eq_some_iff.1 h).1
  have e : pms l = pms (l.take j) ++ pms (p :: l.drop (j + 1)) := by rw [← dropPm h]; exact pms_take l j
  have hl : (pms (l.take j)).length = j * 3 := by rw [pms_len, List.length_take, Nat.min_eq_left (by omega)]
  rw [e, List.set_append_right _ _ (by omega), hl, show j * 3 + 1 - j * 3 = 1 by omega, List.set_append_right _ _ (by omega), hl, show j * 3 + 2 - j * 3 = 2 by omega]
  unfold pms
  rw [List.flatMap_append]
  rfl
theorem vx_setO {w wr : World} {g o n c : Nat} {cs : List Value} (H : VX 56 3 w (.slice (some ⟨g, o, none⟩) n c) n cs wr) (ho : o = 0) (k i : Nat) (u : Value) :
    VX 56 3 w (.slice (some ⟨g, o, none⟩) n c) n (cs.set (k + i) u) (wr.setCell ⟨g, o + k + i, none⟩ u) ∧ wr.frozen? ⟨g, o + k + i, none⟩ = false ∧ ∀ x, cs[k + i]? = some x → wr.cell? ⟨g, o + k + i, none⟩ = some x := by
  subst ho
  rcases H.o.2 with ⟨e, _⟩ | ⟨g2, cap, cur, e, h1, h2, h3, h4, h5, h6⟩
  · cases e
  · injection e with e1 e2 e3
    injection e1 with e1
    injection e1 with e1
    subst e1; subst e3
    have hr : Row wr g 56 cur.toList := by unfold Row; rw [h2]
    have hs := hr.set (0 + k + i) u
    refine ⟨⟨⟨by rw [List.length_set]; exact H.o.1, .inr ⟨g, c, (cur.toList.set (0 + k + i) u).toArray, rfl, h1, hs, h3, h4, by simp [h5], ?_⟩⟩, H.bw.setCell h1 u⟩, hr.frozen _, fun x hx => ?_⟩
    · rw [List.toList_toArray, List.take_set, h6, Nat.zero_add]
    · rw [hr.cell]
      rw [← h6, List.getElem?_take] at hx
      split at hx
      · rw [Nat.zero_add]; exact hx
      · cases hx
theorem wpList_pushPut {w wr : World} {l : List Pm} {v : Value} {ops : Array Oper} {rest : List Oper} {o : Oper} {a : Act} {Q : Exit → Act → World → Prop} (hgd : o.guard = none) (x y : Operand)
    (ho : o.op = .call { callee := .builtin .append, args := #[x, y], argTypes := #[30, 30] }) (hs : a.eval x = v) (H : VX 56 3 w v l.length (pms l) wr) (nm z : List Int) (hy : a.eval y = .slice (some ⟨wr.heap.size, 0, none⟩) 1 1) (hb : l.length + 1 ≤ 16777216)
    (h : ∀ v' w', Hid (VX 56 3 w v' (l ++ [(⟨nm, z, true⟩ : Pm)]).length (pms (l ++ [(⟨nm, z, true⟩ : Pm)])) w') → wpList Tryz.prog ops Q rest (a.put o.dst v') w') : wpList Tryz.prog ops Q (o :: rest) a (wr.alloc (.cells #[.string (strOfNums nm), .string (strOfNums z), .bool true] 56)) :=
  wpList_pushF hgd x y ho hs H ⟨nm, z, true⟩ hy hb h
set_option maxHeartbeats 2000000 in
theorem aset_any (A : Option Addr) (n c : Nat) (l : List Pm) (nm v : List Int) (w : World) (hA : Rds w w.heap.size A (pms l)) (hn : l.length = n) (hl : ∀ p ∈ l, pmSz p) (hnil : A = none → n = 0 ∧ c = 0) (hN : n ≤ 1000000) (hb : By nm) (hs : nm.length ≤ 4000000) :
    Calls Tryz.prog 52 #[.slice A n c, .string (strOfNums nm), .string (strOfNums v)] w fun e w' => ∃ v', e = .returned v' ∧ VX 56 3 w v' (putPL l nm v).length (pms (putPL l nm v)) w' := by
  have HN := kd hn; have HL := kd hl
  have CL := kd (fun w1 (hb1 : Below w.heap.size w w1) => clonep_any A n c l w1 hn ((hA.below hb1).up hb1.size) hnil (by omega))
  have LN := kd (fun w => adlower_any (strOfNums nm) w (by rw [num_size]; exact hs))
  rw [byteL_str hb] at LN
  have NB := kd hb
  clear hA hn hl hnil
  obtain ⟨R, hR⟩ : ∃ R, putPL l nm v = R := ⟨_, rfl⟩
  have RE := kd hR
  rw [hR]
  clear hR
  go_enter Tryz.func52, Tryz.ntmps52
  go_wp2_with fail
  refine (LN.out _).mono ?_
  rintro _ w1 ⟨rfl, hb1⟩
  have B1 := kd hb1
  clear hb1 LN
  go_wp2_with fail
  refine (CL.out _ B1.out).mono ?_
  rintro _ w2 ⟨v0, rfl, x2⟩
  have X := kd (x2.base B1.out)
  clear CL x2 B1
  obtain ⟨B, c2, rfl, hc1, hc2, ob, hr⟩ := X.out.capf
  have OB := kd ob
  clear hr ob
  go_wp2_with fail
  go_loopw [14] (fun vj wr => ∃ j : Nat, j ≤ n ∧ vj = .int .i64 j ∧ Hid (VX 56 3 w (.slice B n c2) n (pms l) wr) ∧ Hid (R = l.take j ++ putPL (l.drop j) nm v)) (fun v _ => n - (intOf v).toNat)
  case atStart => exact ⟨0, Nat.zero_le _, rfl, X, kd (by rw [List.drop_zero, List.take_zero]; exact RE.out.symm)⟩
  case round =>
    clear RE X
    obtain ⟨j, hj, rfl, X, RX⟩ := hrel
    by_cases hlt : j < n
    · have hd2 : decide ((j : Int) < (n : Int)) = true := by simp; omega
      have hd : decide (j < n) = true := by simp [hlt]
      obtain ⟨p, hp⟩ : ∃ p, l[j]? = some p := ⟨_, List.getElem?_eq_getElem (by rw [HN.out]; exact hlt)⟩
      rw [dropPm hp] at RX
      obtain ⟨A', c', e', _, _, _, hA'⟩ := X.out.cap
      obtain ⟨x1, o1, rfl, hx1, hc'⟩ := hA' (by rw [pms_len, HN.out]; omega)
      cases e'
      have HO := kd (show o1 = 0 by
        rcases OB.out with ⟨e, _⟩ | ⟨g, e⟩
        · cases e
        · cases e; rfl)
      have k0 : wr.cell? ⟨x1, o1 + j * 3, none⟩ = some (.string (strOfNums p.n)) := hc' (j * 3) _ (pms_at hp 0 _ rfl)
      obtain ⟨pnb, pvb, pnl, pvl⟩ := HL.out p (List.mem_of_getElem? hp)
      clear hc' hA' hx1
      obtain ⟨pn, pv, ph⟩ := p
      dsimp only at pnb pvb pnl pvl k0
      have LW := kd (fun w => adlower_any (strOfNums pn) w (by rw [num_size]; exact pnl))
      rw [byteL_str pnb] at LW
      have q0 := toList_beq (lowS_by pnb) (lowS_by NB.out)
      have HP := kd hp
      clear hp
      have Q0 := kd q0
      clear q0
      go_wp2_with fail
      refine (LW.out _).mono ?_
      rintro _ w3 ⟨rfl, hb3⟩
      have X3 := kd (X.out.step hb3)
      clear hb3 LW k0 X
      have q0 := Q0.out
      clear Q0
      cases he : (lowS pn == lowS nm) with
      | true =>
        rw [he] at q0
        have E := kd (RX.out.trans (by rw [putPL_yes he]))
        have hp := HP.out
        clear he RX
        obtain ⟨x1s, f0, c1_⟩ := vx_setO X3.out HO.out (j * 3) 1 (.string (strOfNums v))
        have kk := c1_ _ (pms_at3 hp).1
        obtain ⟨x2s, f1, c2_⟩ := vx_setO x1s HO.out (j * 3) 2 (.bool true)
        have kk2 := c2_ (.bool ph) (by rw [List.getElem?_set_ne (by omega)]; exact (pms_at3 hp).2)
        rw [pms_put hp v] at x2s
        have X2 := kd x2s
        clear x1s x2s c1_ c2_
        clear hp
        go_wp2_with fail
        have LE : R.length = n := by rw [E.out, List.length_append, List.length_cons, List.length_take, List.length_drop, HN.out]; omega
        first
          | exact ⟨_, rfl, by rw [LE, E.out]; exact X2.out⟩
          | (go_ret; exact ⟨_, rfl, by rw [LE, E.out]; exact X2.out⟩)
      | false =>
        rw [he] at q0
        have E := kd (RX.out.trans (show l.take j ++ putPL (⟨pn, pv, ph⟩ :: l.drop (j + 1)) nm v = l.take (j + 1) ++ putPL (l.drop (j + 1)) nm v by
          rw [putPL_no he, show l.take (j + 1) = l.take j ++ [⟨pn, pv, ph⟩] by rw [List.take_add_one, HP.out]; rfl, List.append_assoc]; rfl))
        clear he RX HP
        go_wp2_with fail
        go_roundw
        case rel => exact ⟨j + 1, by omega, by go_num, X3, E⟩
        case measure => simp [intOf]; omega
    · obtain rfl : j = n := by omega
      have hd2 : decide ((j : Int) < (j : Int)) = false := by simp
      have E := kd (show R = l ++ [⟨lowS nm, v, true⟩] by rw [RX.out, List.take_of_length_le (by rw [HN.out]; exact Nat.le_refl _), List.drop_of_length_le (by rw [HN.out]; exact Nat.le_refl _)]; rfl)
      have V := kd (show VX 56 3 w (.slice B j c2) l.length (pms l) wr by rw [HN.out]; exact X.out)
      have lb : l.length + 1 ≤ 16777216 := by rw [HN.out]; omega
      clear RX X OB
      go_wp2_with (with_reducible refine wpList_pushPut rfl (.tmp 36) (.tmp 40) rfl rfl V.out (lowS nm) v rfl lb ?_; intro v9 w9 V9)
      go_wp2_with fail
      first
        | exact ⟨_, rfl, by rw [E.out]; exact V9.out⟩
        | (go_ret; exact ⟨_, rfl, by rw [E.out]; exact V9.out⟩)
set_option maxHeartbeats 2000000 in
theorem rset_any (A : Option Addr) (n c : Nat) (l : List Pm) (nm v : List Int) (w : World) (hA : Rds w w.heap.size A (pms l)) (hn : l.length = n) (hl : ∀ p ∈ l, pmSz p) (hN : n ≤ 1000000) (hb : By nm) (hs : nm.length ≤ 4000000) :
    Calls Tryz.prog 53 #[.slice A n c, .string (strOfNums nm), .string (strOfNums v)] w fun e w' => ∃ v', e = .returned v' ∧ VX 56 3 w v' (putPL l nm v).length (pms (putPL l nm v)) w' := by
  have HN := kd hn
  have FN := kd (fun w1 (hb1 : Below w.heap.size w w1) => find_any A n c (l.map toPrm) (strOfNums nm) w1 (by rw [prms_pms]; exact (hA.below hb1).up hb1.size) (by rw [List.length_map]; exact hn) (fun p hp => by
    obtain ⟨q, hq, rfl⟩ := List.mem_map.1 hp
    exact hl q hq) (by omega) (by rw [num_size]; exact hs))
  have LN := kd (fun w => reflower_any (strOfNums nm) w (by rw [num_size]; exact hs))
  rw [byteL_str hb] at LN FN
  have RA := kd hA
  have V0 := kd (VX.nil 56 3 w)
  clear hA hl
  have lb : ([] : List Pm).length + l.length ≤ 16000000 := by rw [HN.out]; simp; omega
  go_enter Tryz.func53, Tryz.ntmps53
  go_upto_region 3 with (with_reducible refine wpList_appPm rfl (.tmp 9) (.tmp 10) rfl (l := []) rfl V0.out l A n c HN.out rfl RA.out lb ?_; intro v1 w1 V1)
  rw [List.nil_append] at V1
  clear V0 RA
  go_wp2_with fail
  refine (FN.out _ V1.out.bw).mono ?_
  rintro _ w2 ⟨rfl, hb2⟩
  have V2 := kd (V1.out.step hb2)
  have BS := kd hb2
  clear V1 hb2 FN
  rcases putPL_find l nm v with ⟨h1, h2⟩ | ⟨i, p, h1, hp, h3⟩
  · rw [h1, show findV none = -1 from rfl]
    have E := kd h2
    clear h1 h2
    go_wp2_with fail
    refine (LN.out _).mono ?_
    rintro _ w3 ⟨rfl, hb3⟩
    have V3 := kd (V2.out.step hb3)
    have lb2 : l.length + 1 ≤ 16777216 := by rw [HN.out]; omega
    clear hb3 V2 LN
    go_wp2_with (with_reducible refine wpList_pushPut rfl (.tmp 17) (.tmp 22) rfl rfl V3.out (lowS nm) v rfl lb2 ?_; intro v9 w9 V9)
    go_wp2_with fail
    first
      | exact ⟨_, rfl, by rw [E.out]; exact V9.out⟩
      | (go_ret; exact ⟨_, rfl, by rw [E.out]; exact V9.out⟩)
  · rw [h1, show findV (some i) = (i : Int) from rfl]
    have hi : i < n := by rw [← HN.out]; exact (List.getElem?_eq_some_iff.1 hp).1
    have E := kd h3
    clear h1 h3 LN
    obtain ⟨B, c2, rfl, hc1, hc2, ob, hr⟩ := V2.out.capf
    obtain ⟨x1, o1, rfl, hx1, hc'⟩ := hr (by rw [pms_len, HN.out]; omega)
    have HO := kd (show o1 = 0 by
      rcases ob with ⟨e, _⟩ | ⟨g, e⟩
      · cases e
      · cases e; rfl)
    have LN := HN.out
    rw [LN] at V2 hc1 ⊢
    obtain ⟨pn, pv, ph⟩ := p
    clear hr ob hx1 hc'
    obtain ⟨x1s, f0, c1_⟩ := vx_setO V2.out HO.out (i * 3) 1 (.string (strOfNums v))
    have kk := c1_ _ (pms_at3 hp).1
    obtain ⟨x2s, f1, c2_⟩ := vx_setO x1s HO.out (i * 3) 2 (.bool true)
    have kk2 := c2_ (.bool ph) (by rw [List.getElem?_set_ne (by omega)]; exact (pms_at3 hp).2)
    rw [pms_put hp v] at x2s
    have X2 := kd x2s
    clear x1s x2s c1_ c2_
    clear hp
    go_wp2_with fail
    have LE : (putPL l nm v).length = n := by rw [E.out, List.length_append, List.length_cons, List.length_take, List.length_drop, HN.out]; omega
    first
      | exact ⟨_, rfl, by rw [LE, E.out]; exact X2.out⟩
      | (go_ret; exact ⟨_, rfl, by rw [LE, E.out]; exact X2.out⟩)
end Go.Proofs.YthfonniieaiocaaGreatDoor
