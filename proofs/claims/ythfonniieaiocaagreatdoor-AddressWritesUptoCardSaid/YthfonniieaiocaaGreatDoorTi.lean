/- Contract: the reference's Bracketed. And what stands behind it. -/
import Derived.Test.YthfonniieaiocaaGreatDoorWp
import Derived.Test.YthfonniieaiocaaGreatDoorWt
import Derived.Test.YthfonniieaiocaaGreatDoorTf
import Derived.Test.YthfonniieaiocaaGreatDoorXv
import Derived.BigQuiet
import Derived.Deep.CutBlock
import Derived.Deep.DeepCutAuto
set_option linter.unusedVariables false
set_option linter.unusedSimpArgs false
set_option maxRecDepth 100000
set_option maxHeartbeats 8000000
namespace Go.Proofs.YthfonniieaiocaaGreatDoor
open Go.RowKit

theorem rbrack_any (v : List Int) (w : World) (hv : By v) (hl : v.length ≤ 4000000) : Calls Tryz.prog 117 #[.string (strOfNums v)] w fun e w' => e = .returned (.bool (brackL v)) ∧ Below w.heap.size w w' := by
  have HO := kd (rhost_any (strOfNums v) w (by rw [num_size]; exact hl))
  rw [byteL_str hv] at HO
  have BE := kd (show brackL v = ((hostL v == some v) && v.getD 0 0 == 91) from rfl)
  have HQ := kd (fun h (e : hostL v = some h) => toList_beq (host_by e hv) hv)
  have J0 := kd (fun (h : 1 ≤ v.length) => fun w => idx_str (strOfNums v) (i := 0) (by rw [num_size]; omega) (z := 0) rfl w)
  rw [byteL_str hv] at J0
  generalize brackL v = B at *
  clear hl
  cases hh : hostL v with
  | none =>
    rw [hh, show hostV none = .tuple #[.string ⟨#[]⟩, .bool false] from rfl] at HO
    have E := kd (show B = false by rw [BE.out, hh]; rfl)
    clear BE J0 HQ hh hv
    go_enter Tryz.func117, Tryz.ntmps117
    go_wp2_with fail
    refine HO.out.mono ?_
    rintro _ w2 ⟨rfl, hb⟩
    have B2 := kd hb
    clear hb HO
    go_wp2_with fail
    go_ret
    exact ⟨by rw [E.out]; rfl, B2.out⟩
  | some h =>
    have q2 := HQ.out h hh
    have j0 := J0.out (by
      cases v with
      | nil => rw [show hostL [] = none by decide] at hh; cases hh
      | cons a r => simp)
    have BE2 := kd (show B = ((h == v) && v.getD 0 0 == 91) by rw [BE.out, hh]; rfl)
    rw [hh, show hostV (some h) = .tuple #[.string (strOfNums h), .bool true] from rfl] at HO
    clear BE J0 HQ hh hv
    generalize (h == v) = b at *
    generalize strOfNums h = sh at *
    go_enter Tryz.func117, Tryz.ntmps117
    go_wp2_with fail
    refine HO.out.mono ?_
    rintro _ w2 ⟨rfl, hb⟩
    have B2 := kd hb
    clear hb HO
    cases b with
    | false =>
      clear j0
      go_wp2_with fail
      go_ret
      exact ⟨by rw [BE2.out]; rfl, B2.out⟩
    | true =>
      generalize v.getD 0 0 = c0 at *
      go_wp2_with fail
      go_ret
      exact ⟨by rw [BE2.out]; simp, B2.out⟩

theorem tok_clean {v : List Int} (h : isToken v = true) : clean v = true := by
  unfold clean
  rw [List.all_eq_true]
  intro c hc
  have h2 := (tok_all h).2 c hc
  unfold isTok at h2
  unfold isCtl
  simp only [Bool.or_eq_true, Bool.and_eq_true, decide_eq_true_eq, beq_iff_eq] at h2
  simp
  omega
theorem brack_clean {v : List Int} (h : brackL v = true) : clean v = true := by
  obtain ⟨_, g, rfl, hg⟩ := brack_form h
  unfold clean
  rw [List.all_eq_true]
  intro c hc
  have h2 : c = 91 ∨ c = 93 ∨ c = 58 ∨ 0 ≤ hexV c := by
    rcases List.mem_cons.1 hc with rfl | hc
    · exact .inl rfl
    · rcases List.mem_append.1 hc with hc | hc
      · rcases hg c hc with h | h
        · exact .inr (.inr (.inl h))
        · exact .inr (.inr (.inr h))
      · exact .inr (.inl (by simpa using hc))
  unfold hexV at h2
  unfold isCtl
  simp
  omega
def refP (p : Pm) : Bool := isToken p.n && ((lowS p.n == p.n) && (clean p.v && (p.h || p.v.isEmpty)))
def txtP (p : Pm) : List Int := 59 :: (p.n ++ if p.h = true then 61 :: valT p.v else [])
theorem pmV_ref (p : Pm) : pmV p = if refP p = true then some (txtP p) else none := by
  obtain ⟨n, v, h⟩ := p
  unfold refP txtP
  dsimp only
  cases ht : isToken n with
  | false => rw [pmV_tok ht]; rfl
  | true =>
    by_cases hl : lowS n = n
    · rw [show (lowS n == n) = true by simpa using hl]
      cases h with
      | false =>
        rw [pmV_has ht hl]
        cases v with
        | nil => simp [clean]
        | cons a r => simp
      | true =>
        rw [pmV_val ht hl]
        unfold valT
        by_cases hv : isToken v = true ∨ brackL v = true
        · have hc : clean v = true := hv.elim tok_clean brack_clean
          rw [if_pos hv, if_pos hv, hc]; rfl
        · rw [if_neg hv, if_neg hv]; cases clean v <;> rfl
    · rw [pmV_low hl, show (lowS n == n) = false by simpa using hl]; rfl
structure PpS (l : List Pm) (j : Nat) (xs : List Int) (R : Option (List Int)) : Prop where
  le : j ≤ 16
  lo : ∀ q ∈ l.take j, lowS q.n = q.n
  s : l.length ≤ 16 → R = (ppsN (l.drop j) (l.take j)).map fun s => xs ++ s
  b : 16 < l.length → R = none
theorem PpS.start (l : List Pm) : PpS l 0 [] (ppsL l) := by
  refine ⟨Nat.zero_le _, fun q hq => by simp at hq, fun h => ?_, fun h => ?_⟩
  · unfold ppsL; rw [if_neg (by omega), List.drop_zero, List.take_zero]; cases ppsN l [] <;> rfl
  · unfold ppsL; rw [if_pos h]
theorem PpS.room {l : List Pm} {j : Nat} {xs : List Int} {R : Option (List Int)} {p : Pm} (h : PpS l j xs R) (hj : j < l.length) (hr : refP p = true) : roomF (l.take j) p.n = if holdsL (l.take j) p.n = true then 7 else if 16 ≤ j then 4 else 0 := by
  unfold refP at hr
  simp only [Bool.and_eq_true, beq_iff_eq] at hr
  have hp := hr.2.1
  unfold roomF holdsL
  rw [List.length_take, Nat.min_eq_left (by omega)]
  have : ((l.take j).any fun q => lowS q.n == lowS p.n) = (l.take j).any fun q => q.n == p.n := by
    rw [Bool.eq_iff_iff, List.any_eq_true, List.any_eq_true]
    constructor
    · rintro ⟨q, hq, e⟩
      exact ⟨q, hq, by rw [h.lo q hq, hp] at e; exact e⟩
    · rintro ⟨q, hq, e⟩
      exact ⟨q, hq, by rw [h.lo q hq, hp]; exact e⟩
  rw [this]
def goodB (l : List Pm) (j : Nat) (p : Pm) : Bool := refP p && (roomF (l.take j) p.n == 0)
theorem PpS.bad {l : List Pm} {j : Nat} {xs : List Int} {R : Option (List Int)} {p : Pm} (h : PpS l j xs R) (hp : l[j]? = some p) (hb : goodB l j p = false) : R = none := by
  have hj : j < l.length := (List.getElem?_eq_some_iff.1 hp).1
  by_cases hl : 16 < l.length
  · exact h.b hl
  · rw [h.s (by omega), dropPm hp, ppsN_cons]
    by_cases ho : holdsL (l.take j) p.n = true
    · rw [if_pos ho]; rfl
    · rw [if_neg ho, pmV_ref]
      unfold goodB at hb
      cases hr : refP p with
      | false => rw [if_neg (by decide)]; rfl
      | true =>
        rw [hr, h.room hj hr, if_neg ho, if_neg (by omega)] at hb
        cases hb
theorem PpS.next {l : List Pm} {j : Nat} {xs : List Int} {R : Option (List Int)} {p : Pm} (h : PpS l j xs R) (hp : l[j]? = some p) (hb : goodB l j p = true) : PpS l (j + 1) (xs ++ txtP p) R := by
  have hj : j < l.length := (List.getElem?_eq_some_iff.1 hp).1
  unfold goodB at hb
  simp only [Bool.and_eq_true, beq_iff_eq] at hb
  obtain ⟨hr, hm⟩ := hb
  rw [h.room hj hr] at hm
  have ho : ¬ holdsL (l.take j) p.n = true := fun ho => by rw [if_pos ho] at hm; cases hm
  rw [if_neg ho] at hm
  have h16 : ¬ 16 ≤ j := fun h16 => by rw [if_pos h16] at hm; cases hm
  have ht : l.take (j + 1) = l.take j ++ [p] := by rw [List.take_add_one, hp]; rfl
  refine ⟨by omega, fun q hq => ?_, fun hl => ?_, h.b⟩
  · rw [ht] at hq
    rcases List.mem_append.1 hq with hq | hq
    · exact h.lo q hq
    · rw [List.mem_singleton] at hq
      subst hq
      unfold refP at hr
      simp only [Bool.and_eq_true, beq_iff_eq] at hr
      exact hr.2.1
  · rw [h.s hl, dropPm hp, ppsN_cons, if_neg ho, pmV_ref, if_pos hr, ht]
    cases ppsN (l.drop (j + 1)) (l.take j ++ [p]) with
    | none => rfl
    | some s => simp
theorem PpS.end {l : List Pm} {xs : List Int} {R : Option (List Int)} (h : PpS l l.length xs R) : R = some xs := by
  rw [h.s h.le, List.drop_length]; simp [ppsN]
theorem roomF_is (l : List Pm) (n : List Int) : roomF l n = 0 ∨ roomF l n = 4 ∨ roomF l n = 7 := by
  unfold roomF
  split
  · exact .inr (.inr rfl)
  · split
    · exact .inr (.inl rfl)
    · exact .inl rfl
theorem rpprint_any (A : Option Addr) (n c : Nat) (l : List Pm) (w : World) (hA : Rds w w.heap.size A (pms l)) (hn : l.length = n) (hc : n ≤ c) (hN : n ≤ 16000000) (hl : ∀ p ∈ l, pmSz p) :
    Calls Tryz.prog 49 #[.slice A n c] w (PriP w (ppsL l)) := by
  have HN := kd hn; have HL := kd hl
  have RA := kd (fun wr (hb : Below w.heap.size w wr) => show Rds wr wr.heap.size A (pms l) from (hA.below hb).up hb.size)
  have BAD := kd (fun w' h hb => PriP.bad (w := w) (w' := w') (R := ppsL l) h hb)
  have GOOD := kd (fun w' s h hb => PriP.good (w := w) (w' := w') (R := ppsL l) (s := s) h hb)
  have PS0 := kd (PpS.start l)
  generalize PriP w (ppsL l) = PP at *
  generalize ppsL l = R at *
  clear hA hn hl
  go_enter Tryz.func49, Tryz.ntmps49
  go_wp2_with fail
  go_loopw [4, 5] (fun vt vj wr => ∃ (j : Nat) (xs : List Int), j ≤ n ∧ j ≤ 16 ∧ xs.length ≤ 13000000 * j ∧ vt = .string (strOfNums xs) ∧ vj = .int .i64 j ∧ Hid (Below w.heap.size w wr) ∧ Hid (PpS l j xs R)) (fun _ v _ => n - (intOf v).toNat)
  case atStart => exact ⟨0, [], Nat.zero_le _, Nat.zero_le _, Nat.zero_le _, rfl, rfl, kd (Below.refl _ _), PS0⟩
  case round =>
    clear PS0
    obtain ⟨j, xs, hj, hj16, hxl, rfl, rfl, HB, PS⟩ := hrel
    by_cases hlt : j < n
    · have hd2 : decide ((j : Int) < (n : Int)) = true := by simp; omega
      obtain ⟨p, hp⟩ : ∃ p, l[j]? = some p := ⟨_, List.getElem?_eq_getElem (by rw [HN.out]; exact hlt)⟩
      have PB := kd (fun h => PS.out.bad hp h)
      have PN := kd (fun h => PS.out.next hp h)
      obtain ⟨x1, o1, rfl, hx1, hc1⟩ := RA.out wr HB.out (by rw [pms_len, HN.out]; omega)
      have G1 := kd (show wr.rangeAt x1 (o1 + j * 3) (pmC p) from fun i v hv => Rds.range2 hc1 (j * 3) _ (pms_at hp) i v hv)
      obtain ⟨pnb, pvb, pnl, pvl⟩ := HL.out p (List.mem_of_getElem? hp)
      have RMA := kd (fun W (hb : Below w.heap.size w W) => rroom_any (some ⟨x1, o1, none⟩) j c (l.take j) p.n W (rds_take (RA.out W hb) j) (by rw [List.length_take, HN.out]; omega) (fun q hq => HL.out q (List.mem_of_mem_take hq)) (by omega) pnb pnl)
      have GE := kd (show goodB l j p = ((isToken p.n && ((lowS p.n == p.n) && (clean p.v && (p.h || p.v.isEmpty)))) && (roomF (l.take j) p.n == 0)) from rfl)
      have RIS := kd (roomF_is (l.take j) p.n)
      have TE := kd (show txtP p = 59 :: (p.n ++ if p.h = true then 61 :: valT p.v else []) from rfl)
      generalize roomF (l.take j) p.n = rm at *
      generalize txtP p = tx at *
      generalize goodB l j p = gb at *
      clear hc1 hp PS
      obtain ⟨pn, pv, ph⟩ := p
      dsimp only at pnb pvb pnl pvl RMA GE TE
      have G2 := kd (show wr.rangeAt x1 (o1 + j * 3) [.string (strOfNums pn), .string (strOfNums pv), .bool ph] from G1.out)
      have TK := kd (fun w => reftoken_any (strOfNums pn) w (by rw [num_size]; omega))
      have TV := kd (fun w => reftoken_any (strOfNums pv) w (by rw [num_size]; omega))
      have LW := kd (fun w => reflower_any (strOfNums pn) w (by rw [num_size]; exact pnl))
      have PL := kd (fun w => (rplain_any (strOfNums pv) w (by rw [num_size]; exact pvl)).mono fun e w' h => (show e = .returned (.bool (clean (byteL (strOfNums pv)))) ∧ Below w.heap.size w w' from ⟨h.1, h.2 ▸ Below.refl _ _⟩))
      have QV := kd (fun w => refquote_any (strOfNums pv) w (by rw [num_size]; exact pvl))
      have BV := kd (fun w => rbrack_any pv w pvb pvl)
      rw [byteL_str pnb] at TK LW
      rw [byteL_str pvb] at TV PL QV
      have LQ := kd (toList_beq (lowS_by pnb) pnb)
      have VEM := kd (empty_beq pv)
      have B1 := kd (bthen HB.out ((Below.refl wr.heap.size wr).alloc (Nat.le_refl _) (.cells ([.string (strOfNums pn), .string (strOfNums pv), .bool ph] : List Value).toArray 56)))
      have RP := kd (Row.new wr 56 [.string (strOfNums pn), .string (strOfNums pv), .bool ph])
      clear G1 HB
      go_upto_region 6 with (with_reducible refine wpList_load_mid rfl 56 (.tmp 17) rfl x1 (o1 + j * 3) rfl [.string (strOfNums pn), .string (strOfNums pv), .bool ph] _ G2.out Tryz.underlying56 rfl (sizePm _ _ _) ?_)
      generalize wr.alloc (.cells #[.string (strOfNums pn), .string (strOfNums pv), .bool ph] 56) = w2 at *
      generalize wr.heap.size = pb at *
      clear G2
      have jc : (j : Int) ≤ (c : Int) := by omega
      go_cut [55] (fun v wx => v = .bool (!gb) ∧ Hid (Below w2.heap.size w2 wx))
      case first =>
        have q0 : ∀ x : BW w2, x.w.cell? ⟨pb, 0, none⟩ = some (.string (strOfNums pn)) := fun x => RP.out.later x 0
        have q1 : ∀ x : BW w2, x.w.cell? ⟨pb, 1, none⟩ = some (.string (strOfNums pv)) := fun x => RP.out.later x 1
        have q2 : ∀ x : BW w2, x.w.cell? ⟨pb, 2, none⟩ = some (.bool ph) := fun x => RP.out.later x 2
        have RM2 := kd (fun x : BW w2 => RMA.out x.w (bthen B1.out x.h))
        have LQ2 := LQ.out
        have VE2 := VEM.out
        clear TE LQ VEM RMA PB PN BV QV TV
        generalize (lowS pn == pn) = ln at *
        generalize isToken pn = tn at *
        generalize clean pv = cv at *
        generalize pv.isEmpty = ve at *
        cases tn with
        | false =>
          obtain rfl : gb = false := GE.out
          refine region_bw (by kernel_rfl) (by kernel_rfl) ?_
          repeat go_big_quiet_step (fail)
          go_big_quiet_step (exact calls_bw (TK.out _))
          repeat go_big_quiet_step (fail)
          refine wpQuiet_nil ?_
          rintro _ ⟨y, rfl⟩
          go_wp2_with fail
          go_meet
          exact ⟨rfl, kd y.h⟩
        | true =>
          cases ln with
          | false =>
            obtain rfl : gb = false := GE.out
            refine region_bw (by kernel_rfl) (by kernel_rfl) ?_
            repeat go_big_quiet_step (fail)
            go_big_quiet_step (exact calls_bw (TK.out _))
            repeat go_big_quiet_step (fail)
            go_big_quiet_step (exact calls_bw (LW.out _))
            repeat go_big_quiet_step (fail)
            refine wpQuiet_nil ?_
            rintro _ ⟨y, rfl⟩
            go_wp2_with fail
            go_meet
            exact ⟨rfl, kd y.h⟩
          | true =>
            cases cv with
            | false =>
              obtain rfl : gb = false := GE.out
              refine region_bw (by kernel_rfl) (by kernel_rfl) ?_
              repeat go_big_quiet_step (fail)
              go_big_quiet_step (exact calls_bw (TK.out _))
              repeat go_big_quiet_step (fail)
              go_big_quiet_step (exact calls_bw (LW.out _))
              repeat go_big_quiet_step (fail)
              go_big_quiet_step (exact calls_bw (PL.out _))
              repeat go_big_quiet_step (fail)
              refine wpQuiet_nil ?_
              rintro _ ⟨y, rfl⟩
              go_wp2_with fail
              go_meet
              exact ⟨rfl, kd y.h⟩
            | true =>
              cases ph with
              | true =>
                rcases RIS.out with rfl | rfl | rfl
                · obtain rfl : gb = true := GE.out
                  refine region_bw (by kernel_rfl) (by kernel_rfl) ?_
                  repeat go_big_quiet_step (fail)
                  go_big_quiet_step (exact calls_bw (TK.out _))
                  repeat go_big_quiet_step (fail)
                  go_big_quiet_step (exact calls_bw (LW.out _))
                  repeat go_big_quiet_step (fail)
                  go_big_quiet_step (exact calls_bw (PL.out _))
                  repeat go_big_quiet_step (fail)
                  go_big_quiet_step (exact calls_bw (RM2.out _))
                  repeat go_big_quiet_step (fail)
                  refine wpQuiet_nil ?_
                  rintro _ ⟨y, rfl⟩
                  go_wp2_with fail
                  go_meet
                  exact ⟨rfl, kd y.h⟩
                · obtain rfl : gb = false := GE.out
                  refine region_bw (by kernel_rfl) (by kernel_rfl) ?_
                  repeat go_big_quiet_step (fail)
                  go_big_quiet_step (exact calls_bw (TK.out _))
                  repeat go_big_quiet_step (fail)
                  go_big_quiet_step (exact calls_bw (LW.out _))
                  repeat go_big_quiet_step (fail)
                  go_big_quiet_step (exact calls_bw (PL.out _))
                  repeat go_big_quiet_step (fail)
                  go_big_quiet_step (exact calls_bw (RM2.out _))
                  repeat go_big_quiet_step (fail)
                  refine wpQuiet_nil ?_
                  rintro _ ⟨y, rfl⟩
                  go_wp2_with fail
                  go_meet
                  exact ⟨rfl, kd y.h⟩
                · obtain rfl : gb = false := GE.out
                  refine region_bw (by kernel_rfl) (by kernel_rfl) ?_
                  repeat go_big_quiet_step (fail)
                  go_big_quiet_step (exact calls_bw (TK.out _))
                  repeat go_big_quiet_step (fail)
                  go_big_quiet_step (exact calls_bw (LW.out _))
                  repeat go_big_quiet_step (fail)
                  go_big_quiet_step (exact calls_bw (PL.out _))
                  repeat go_big_quiet_step (fail)
                  go_big_quiet_step (exact calls_bw (RM2.out _))
                  repeat go_big_quiet_step (fail)
                  refine wpQuiet_nil ?_
                  rintro _ ⟨y, rfl⟩
                  go_wp2_with fail
                  go_meet
                  exact ⟨rfl, kd y.h⟩
              | false =>
                cases ve with
                | false =>
                  obtain rfl : gb = false := GE.out
                  refine region_bw (by kernel_rfl) (by kernel_rfl) ?_
                  repeat go_big_quiet_step (fail)
                  go_big_quiet_step (exact calls_bw (TK.out _))
                  repeat go_big_quiet_step (fail)
                  go_big_quiet_step (exact calls_bw (LW.out _))
                  repeat go_big_quiet_step (fail)
                  go_big_quiet_step (exact calls_bw (PL.out _))
                  repeat go_big_quiet_step (fail)
                  refine wpQuiet_nil ?_
                  rintro _ ⟨y, rfl⟩
                  go_wp2_with fail
                  go_meet
                  exact ⟨rfl, kd y.h⟩
                | true =>
                  rcases RIS.out with rfl | rfl | rfl
                  · obtain rfl : gb = true := GE.out
                    refine region_bw (by kernel_rfl) (by kernel_rfl) ?_
                    repeat go_big_quiet_step (fail)
                    go_big_quiet_step (exact calls_bw (TK.out _))
                    repeat go_big_quiet_step (fail)
                    go_big_quiet_step (exact calls_bw (LW.out _))
                    repeat go_big_quiet_step (fail)
                    go_big_quiet_step (exact calls_bw (PL.out _))
                    repeat go_big_quiet_step (fail)
                    go_big_quiet_step (exact calls_bw (RM2.out _))
                    repeat go_big_quiet_step (fail)
                    refine wpQuiet_nil ?_
                    rintro _ ⟨y, rfl⟩
                    go_wp2_with fail
                    go_meet
                    exact ⟨rfl, kd y.h⟩
                  · obtain rfl : gb = false := GE.out
                    refine region_bw (by kernel_rfl) (by kernel_rfl) ?_
                    repeat go_big_quiet_step (fail)
                    go_big_quiet_step (exact calls_bw (TK.out _))
                    repeat go_big_quiet_step (fail)
                    go_big_quiet_step (exact calls_bw (LW.out _))
                    repeat go_big_quiet_step (fail)
                    go_big_quiet_step (exact calls_bw (PL.out _))
                    repeat go_big_quiet_step (fail)
                    go_big_quiet_step (exact calls_bw (RM2.out _))
                    repeat go_big_quiet_step (fail)
                    refine wpQuiet_nil ?_
                    rintro _ ⟨y, rfl⟩
                    go_wp2_with fail
                    go_meet
                    exact ⟨rfl, kd y.h⟩
                  · obtain rfl : gb = false := GE.out
                    refine region_bw (by kernel_rfl) (by kernel_rfl) ?_
                    repeat go_big_quiet_step (fail)
                    go_big_quiet_step (exact calls_bw (TK.out _))
                    repeat go_big_quiet_step (fail)
                    go_big_quiet_step (exact calls_bw (LW.out _))
                    repeat go_big_quiet_step (fail)
                    go_big_quiet_step (exact calls_bw (PL.out _))
                    repeat go_big_quiet_step (fail)
                    go_big_quiet_step (exact calls_bw (RM2.out _))
                    repeat go_big_quiet_step (fail)
                    refine wpQuiet_nil ?_
                    rintro _ ⟨y, rfl⟩
                    go_wp2_with fail
                    go_meet
                    exact ⟨rfl, kd y.h⟩
      case rest =>
      obtain ⟨rfl, hbc⟩ := hcut
      have B2 := kd (bthen B1.out hbc.out)
      replace RP := kd (RP.out.below hbc.out)
      clear hbc B1 TK LW PL LQ VEM RMA RIS jc
      have k0 : wc.cell? ⟨pb, 0, none⟩ = some (.string (strOfNums pn)) := RP.out.cell 0
      have k1 : wc.cell? ⟨pb, 1, none⟩ = some (.string (strOfNums pv)) := RP.out.cell 1
      have k2 : wc.cell? ⟨pb, 2, none⟩ = some (.bool ph) := RP.out.cell 2
      cases gb with
      | false =>
        have E := kd (PB.out rfl)
        clear PB PN GE TV BV QV TE
        go_wp2_with fail
        first
          | exact BAD.out _ E.out B2.out
          | (go_ret2; exact BAD.out _ E.out B2.out)
      | true =>
        have CL := kd (show clean pv = true by
          have := GE.out.symm
          simp only [Bool.and_eq_true] at this
          exact this.1.2.2.1)
        have NX0 := kd (PN.out rfl)
        have SX := num_size xs; have SN := num_size pn
        have c1 : ¬ (9223372036854775807 < (strOfNums xs).size + 1) := by rw [SX]; omega
        have c2 : ¬ (9223372036854775807 < (strOfNums xs).size + 1 + (strOfNums pn).size) := by rw [SX, SN]; omega
        have JA := kd (show strOfNums xs ++ ⟨#[59]⟩ ++ strOfNums pn = strOfNums (xs ++ (59 :: pn)) by rw [show (⟨#[59]⟩ : ByteArray) = strOfNums [59] by rfl, str_append, str_append]; simp)
        clear PB PN GE
        go_upto_region 9 with (fail)
        rw [JA.out]
        clear k0 c1 c2 SX SN JA BAD
        cases ph with
        | false =>
          have TE2 := kd (show tx = 59 :: pn by rw [TE.out]; simp)
          have NX := kd (show PpS l (j + 1) (xs ++ (59 :: pn)) R by rw [← TE2.out]; exact NX0.out)
          have LL : (xs ++ (59 :: pn)).length ≤ 13000000 * (j + 1) := by simp; omega
          have T0 := kd (rfl : strOfNums (xs ++ (59 :: pn)) = strOfNums (xs ++ (59 :: pn)))
          clear TV BV QV TE NX0 CL
          go_wp2_with fail
          go_roundw
          case rel => exact ⟨j + 1, xs ++ (59 :: pn), by omega, NX.out.le, LL, by first | exact congrArg Value.string T0.out | rfl, by go_num, B2, NX⟩
          case measure => simp [intOf]; omega
        | true =>
          cases htk : isToken pv with
          | true =>
            have TE2 := kd (show tx = 59 :: (pn ++ 61 :: pv) by rw [TE.out]; unfold valT; rw [if_pos rfl, if_pos (.inl htk)])
            have NX := kd (show PpS l (j + 1) (xs ++ (59 :: (pn ++ 61 :: pv))) R by rw [← TE2.out]; exact NX0.out)
            rw [htk] at TV
            clear BV QV TE NX0 CL htk
            have T0 := kd (show strOfNums (xs ++ (59 :: pn)) ++ ⟨#[61]⟩ ++ strOfNums pv = strOfNums (xs ++ (59 :: (pn ++ 61 :: pv))) by rw [show (⟨#[61]⟩ : ByteArray) = strOfNums [61] by rfl, str_append, str_append]; simp)
            have S8 := num_size (xs ++ (59 :: pn)); have SV := num_size (pv)
            have L8 : (xs ++ (59 :: pn)).length = xs.length + 1 + pn.length := by simp; omega
            have c3 : ¬ (9223372036854775807 < (strOfNums (xs ++ (59 :: pn))).size + 1) := by rw [S8, L8]; omega
            have c4 : ¬ (9223372036854775807 < (strOfNums (xs ++ (59 :: pn))).size + 1 + (strOfNums pv).size) := by rw [S8, L8, SV]; omega
            have LL : (xs ++ (59 :: (pn ++ 61 :: pv))).length ≤ 13000000 * (j + 1) := by simp; omega
            clear S8 SV L8
            generalize strOfNums (xs ++ (59 :: pn)) = s8 at *
            go_wp2_with fail
            refine (TV.out _).mono ?_
            rintro _ w5 ⟨rfl, hb5⟩
            have B5 := kd (bthen B2.out hb5)
            have k1' : w5.cell? ⟨pb, 1, none⟩ = some (.string (strOfNums pv)) := (RP.out.below hb5).cell 1
            clear hb5 TV k1 k2
            go_wp2_with fail
            go_roundw
            case rel => exact ⟨j + 1, xs ++ (59 :: (pn ++ 61 :: pv)), by omega, NX.out.le, LL, by first | exact congrArg Value.string T0.out | rfl, by go_num, B5, NX⟩
            case measure => simp [intOf]; omega
          | false =>
            rw [htk] at TV
            cases hbr : brackL pv with
            | true =>
              have TE2 := kd (show tx = 59 :: (pn ++ 61 :: pv) by rw [TE.out]; unfold valT; rw [if_pos rfl, if_pos (.inr hbr)])
              have NX := kd (show PpS l (j + 1) (xs ++ (59 :: (pn ++ 61 :: pv))) R by rw [← TE2.out]; exact NX0.out)
              rw [hbr] at BV
              clear QV TE NX0 CL htk hbr
              have T0 := kd (show strOfNums (xs ++ (59 :: pn)) ++ ⟨#[61]⟩ ++ strOfNums pv = strOfNums (xs ++ (59 :: (pn ++ 61 :: pv))) by rw [show (⟨#[61]⟩ : ByteArray) = strOfNums [61] by rfl, str_append, str_append]; simp)
              have S8 := num_size (xs ++ (59 :: pn)); have SV := num_size (pv)
              have L8 : (xs ++ (59 :: pn)).length = xs.length + 1 + pn.length := by simp; omega
              have c3 : ¬ (9223372036854775807 < (strOfNums (xs ++ (59 :: pn))).size + 1) := by rw [S8, L8]; omega
              have c4 : ¬ (9223372036854775807 < (strOfNums (xs ++ (59 :: pn))).size + 1 + (strOfNums pv).size) := by rw [S8, L8, SV]; omega
              have LL : (xs ++ (59 :: (pn ++ 61 :: pv))).length ≤ 13000000 * (j + 1) := by simp; omega
              clear S8 SV L8
              generalize strOfNums (xs ++ (59 :: pn)) = s8 at *
              go_wp2_with fail
              refine (TV.out _).mono ?_
              rintro _ w5 ⟨rfl, hb5⟩
              have B5 := kd (bthen B2.out hb5)
              replace RP := kd (RP.out.below hb5)
              have k1' : w5.cell? ⟨pb, 1, none⟩ = some (.string (strOfNums pv)) := RP.out.cell 1
              clear hb5 TV k1 k2
              go_wp2_with fail
              refine (BV.out _).mono ?_
              rintro _ w6 ⟨rfl, hb6⟩
              have B6 := kd (bthen B5.out hb6)
              have k1 : w6.cell? ⟨pb, 1, none⟩ = some (.string (strOfNums pv)) := (RP.out.below hb6).cell 1
              clear hb6 BV k1'
              go_wp2_with fail
              go_roundw
              case rel => exact ⟨j + 1, xs ++ (59 :: (pn ++ 61 :: pv)), by omega, NX.out.le, LL, by first | exact congrArg Value.string T0.out | rfl, by go_num, B6, NX⟩
              case measure => simp [intOf]; omega
            | false =>
              have TE2 := kd (show tx = 59 :: (pn ++ 61 :: quoteL pv) by rw [TE.out]; unfold valT; rw [if_pos rfl, if_neg (by rw [htk, hbr]; decide)])
              have NX := kd (show PpS l (j + 1) (xs ++ (59 :: (pn ++ 61 :: quoteL pv))) R by rw [← TE2.out]; exact NX0.out)
              rw [hbr] at BV
              rw [quoteV_yes CL.out] at QV
              have VL : (quoteL pv).length ≤ 8000002 := by have := quote_len pv; omega
              clear TE NX0 CL htk hbr
              have T0 := kd (show strOfNums (xs ++ (59 :: pn)) ++ ⟨#[61]⟩ ++ strOfNums (quoteL pv) = strOfNums (xs ++ (59 :: (pn ++ 61 :: (quoteL pv)))) by rw [show (⟨#[61]⟩ : ByteArray) = strOfNums [61] by rfl, str_append, str_append]; simp)
              have S8 := num_size (xs ++ (59 :: pn)); have SV := num_size ((quoteL pv))
              have L8 : (xs ++ (59 :: pn)).length = xs.length + 1 + pn.length := by simp; omega
              have c3 : ¬ (9223372036854775807 < (strOfNums (xs ++ (59 :: pn))).size + 1) := by rw [S8, L8]; omega
              have c4 : ¬ (9223372036854775807 < (strOfNums (xs ++ (59 :: pn))).size + 1 + (strOfNums (quoteL pv)).size) := by rw [S8, L8, SV]; omega
              have LL : (xs ++ (59 :: (pn ++ 61 :: (quoteL pv)))).length ≤ 13000000 * (j + 1) := by simp; omega
              clear S8 SV L8
              generalize strOfNums (xs ++ (59 :: pn)) = s8 at *
              go_wp2_with fail
              refine (TV.out _).mono ?_
              rintro _ w5 ⟨rfl, hb5⟩
              have B5 := kd (bthen B2.out hb5)
              replace RP := kd (RP.out.below hb5)
              have k1' : w5.cell? ⟨pb, 1, none⟩ = some (.string (strOfNums pv)) := RP.out.cell 1
              clear hb5 TV k1 k2
              go_wp2_with fail
              refine (BV.out _).mono ?_
              rintro _ w6 ⟨rfl, hb6⟩
              have B6 := kd (bthen B5.out hb6)
              replace RP := kd (RP.out.below hb6)
              have k1 : w6.cell? ⟨pb, 1, none⟩ = some (.string (strOfNums pv)) := RP.out.cell 1
              have k2 : w6.cell? ⟨pb, 2, none⟩ = some (.bool true) := RP.out.cell 2
              clear hb6 BV k1'
              go_wp2_with fail
              refine (QV.out _).mono ?_
              rintro _ w7 ⟨rfl, hb7⟩
              have B7 := kd (bthen B6.out hb7)
              clear hb7 QV k1 k2
              go_wp2_with fail
              go_roundw
              case rel => exact ⟨j + 1, xs ++ (59 :: (pn ++ 61 :: quoteL pv)), by omega, NX.out.le, LL, by first | exact congrArg Value.string T0.out | rfl, by go_num, B7, NX⟩
              case measure => simp [intOf]; omega
    · obtain rfl : j = n := by omega
      have hd2 : decide ((j : Int) < (j : Int)) = false := by simp
      have E := kd (show R = some xs by have h := PS.out; rw [← HN.out] at h; exact h.end)
      clear PS
      go_wp2_with fail
      first
        | exact GOOD.out _ _ E.out HB.out
        | (go_ret2; exact GOOD.out _ _ E.out HB.out)
end Go.Proofs.YthfonniieaiocaaGreatDoor
