/- InviteclientUser's call. -/
import Derived.Test.YtdooohanhekniaaTd
namespace Go.Proofs.Ytdooohanhekniaa
open Go.RowKit

def FinR (l : List Ent) (f i : Value) : Prop := ∃ j : Nat, j ≤ l.length ∧ i = .int .i64 j ∧ f = .bool (fin (l.take j))
theorem fin_next {l : List Ent} {j : Nat} {x : Ent} (hx : l[j]? = some x) : fin (l.take (j + 1)) = (fin (l.take j) || (x.out.kind == 3 && decide (200 ≤ x.out.code))) := by
  rw [List.take_add_one, hx, ← fin_snoc]; rfl

set_option maxRecDepth 100000 in
set_option maxHeartbeats 8000000 in
theorem user_law (A : Option Addr) (n c : Nat) (l : List Ev) (w : World) (hl : Evs w A n l) (hn : (n : Int) ≤ 9223372036854775807) : Calls Try.prog 4 #[.slice A n c] w (TrueBelow w) := by
  obtain ⟨hinv, hnow, hlog⟩ := play_inv l hl.2.1
  have HP := Lib.hid (play_any A n c l w hl hn)
  have hn0 := hinv.nw
  have hul := untilS_log (playS l) ((playS l).now + 100000)
  have e1 := hinv.until_ (t := (playS l).now + 100000) (by omega)
  have hcl := Lib.hid e1.closed
  have hmay := Lib.hid e1.may
  obtain ⟨u1, u2, u3, u4, u5⟩ := user_fact e1
  have UO := Lib.hid u5
  generalize playS l = σ at *
  clear hl hn u5
  clear e1 hinv
  go_enter Try.func4, Try.ntmps4
  go_wp2_with fail
  refine HP.out.mono ?_
  rintro e w1 ⟨g, v, rfl, hlo, hS, hv, hB⟩
  have c17 := hS.cnow
  have hgl := hS.lt
  have HU := Lib.hid (until_any g σ v (σ.now + 100000) w1 hS (by omega) hn0 (by omega) (by omega))
  have HV := Lib.hid hv; have HB := Lib.hid hB
  clear hS hv hB HP
  go_wp2_with fail
  refine HU.out.mono ?_
  rintro e w2 ⟨rfl, h1⟩
  have A2 := At.take HV.out hlo HB.out h1
  clear c17 hgl HU h1
  generalize untilS σ (σ.now + 100000) = τ at *
  obtain ⟨v2, hS2, hv2⟩ := A2.ex
  have hlt : τ.log.length ≤ 200000 := by omega
  have c17 := hS2.cnow
  obtain ⟨c0, c1, c2⟩ := hS2.cm
  have c18 := hS2.clog
  have hgl := hS2.lt
  have K := fun k a b => Lib.hid (count_any g τ v2 k τ.now a b w2 hS2 hlt)
  have KH := Lib.hid K
  have HC := Lib.hid (closed_any g τ v2 (w2.alloc (.cells #[.int .u8 τ.m.st, .int .i64 τ.m.wait, .int .i64 τ.m.code] 26)) (hS2.alloc _) hlt hcl.out)
  obtain ⟨A', cap, hv', hcap, hcells⟩ := hS2.logAt
  have HL := Lib.hid hcells
  have HA := Lib.hid A2
  rw [hv'] at c18
  clear A2 hS2 hv2 HV HB K hv' hcells hcl
  have r0 := cnt_range 3 τ.now 300 699 τ.log
  have r1 := cnt_range 3 τ.now 200 299 τ.log
  have r2 := cnt_range 3 τ.now 0 1000 τ.log
  have r3 := cnt_range 5 τ.now 0 1000 τ.log
  have r4 := cnt_range 2 τ.now 300 699 τ.log
  generalize τ.log = lg at *
  generalize hR : cnt 3 τ.now 300 699 lg = R at *
  generalize hAc : cnt 3 τ.now 200 299 lg = Ac at *
  generalize hG : cnt 3 τ.now 0 1000 lg = G at *
  generalize hT : cnt 5 τ.now 0 1000 lg = T at *
  generalize hK : cnt 2 τ.now 300 699 lg = KK at *
  have q1 := Lib.hid hR; have q2 := Lib.hid hAc; have q3 := Lib.hid hG; have q4 := Lib.hid hT; have q5 := Lib.hid hK
  clear hR hAc hG hT hK
  obtain ⟨m, hm⟩ : ∃ m, m = lg.length := ⟨_, rfl⟩
  have HM := Lib.hid hm
  rw [← hm] at hlt c18 hcap
  clear hm
  have g1 : decide (1 < R) = false := by simp; omega
  go_wp2_with fail
  refine (KH.out _ _ _).out.mono ?_
  rw [q1.out]
  rintro e w' ⟨rfl, rfl⟩
  go_wp2_with fail
  refine (KH.out _ _ _).out.mono ?_
  rw [q2.out]
  rintro e w' ⟨rfl, rfl⟩
  go_wp2_with fail
  refine (KH.out _ _ _).out.mono ?_
  rw [q3.out]
  rintro e w' ⟨rfl, rfl⟩
  by_cases hR : 0 < R
  · by_cases hT : 0 < T
    · have g2 : decide (0 < R) = true := by simp; omega
      have g3 : decide (0 < Ac) = false := by simp; omega
      have g4 : decide (0 < T) = true := by simp; omega
      have g5 : decide (0 < G) = false := by simp; omega
      have g6 : decide (KK < 1) = false := by simp; omega
      go_wp2_with fail
      refine (KH.out _ _ _).out.mono ?_
      rw [q4.out]
      rintro e w' ⟨rfl, rfl⟩
      go_wp2_with fail
      refine (KH.out _ _ _).out.mono ?_
      rw [q5.out]
      rintro e w' ⟨rfl, rfl⟩
      go_wp2_with fail
      go_loop [7, 8] (fun f i => FinR lg f i) (fun _ i => m - (intOf i).toNat)
      case atStart => exact ⟨0, Nat.zero_le _, rfl, rfl⟩
      case round =>
        clear KH
        obtain ⟨j, hj, rfl, rfl⟩ := hrel
        by_cases hjm : j < m
        · have hml := HM.out
          obtain ⟨x, hx⟩ : ∃ x, lg[j]? = some x := ⟨lg[j]'(by omega), List.getElem?_eq_getElem (by omega)⟩
          obtain ⟨bb, rfl, hbb, hne, hcb⟩ := HL.out (by omega)
          obtain ⟨_, a1, a2, _, _⟩ := hcb j x hx
          have hfn := fin_next hx
          have hord := UO.out j x hx
          have hjl : j + 1 ≤ lg.length := by omega
          generalize fin (lg.take j) = b at *
          have NEXT := Lib.hid (fun (z : Bool) (hz : z = (b || (x.out.kind == 3 && decide (200 ≤ x.out.code)))) => show FinR lg (.bool z) (.int .i64 (j + 1 : Nat)) from ⟨j + 1, hjl, rfl, by rw [hfn, hz]⟩)
          clear hml hcb hx hfn
          obtain ⟨xa, xk, xc, xt, xf⟩ := x
          simp only at a1 a2 hord
          by_cases h3 : xk = 3
          · subst h3
            cases b with
            | true =>
              have hc := hord rfl rfl
              have E := Lib.hid (show true = (true || ((3 : Int) == 3 && decide (200 ≤ xc))) by simp)
              have d1 : decide (xc < 200) = false := by simp; omega
              clear hord
              go_wp2_with fail
              go_round
              case rel => exact NEXT.out _ E.out
              case measure => simp [intOf]; omega
            | false =>
              clear hord
              by_cases hc : 200 ≤ xc
              · have E := Lib.hid (show true = (false || ((3 : Int) == 3 && decide (200 ≤ xc))) by simp [hc])
                go_wp2_with fail
                go_round
                case rel => exact NEXT.out _ E.out
                case measure => simp [intOf]; omega
              · have E := Lib.hid (show false = (false || ((3 : Int) == 3 && decide (200 ≤ xc))) by simp [hc])
                have d1 : decide (200 ≤ xc) = false := by simpa using hc
                go_wp2_with fail
                go_round
                case rel => exact NEXT.out _ E.out
                case measure => simp [intOf]; omega
          · have E := Lib.hid (show b = (b || (xk == 3 && decide (200 ≤ xc))) by simp [h3])
            have g3 : (xk != 3) = true := by simpa using h3
            clear hord h3
            go_wp2_with fail
            go_round
            case rel => exact NEXT.out _ E.out
            case measure => simp [intOf]; omega
        · have hjm' : ¬ j < m := hjm
          go_wp2_with fail
          refine (may_any _ _ _ _).mono ?_
          rintro e w' ⟨rfl, rfl⟩
          rw [hmay.out]
          go_wp2_with fail
          refine HC.out.mono ?_
          rintro e w3 ⟨rfl, q, rfl⟩
          have HA3 := Lib.hid ((HA.out.below ((Below.refl _ _).alloc (Nat.le_refl _) _)).below ⟨rfl, rfl, rfl, Nat.le_refl _, fun _ _ => rfl⟩ : At w g _ ((w2.alloc (.cells #[.int .u8 τ.m.st, .int .i64 τ.m.wait, .int .i64 τ.m.code] 26)).drewN q))
          clear c0 c1 c2 c17 c18 hgl HC HA
          go_wp2_with fail
          refine (works_any _).mono ?_
          rintro e w4 ⟨rfl, hb⟩
          have FIN := Lib.hid (HA3.out.below hb).bw
          clear hb
          go_wp2_with fail
          go_ret
          exact ⟨rfl, FIN.out⟩
    · have g2 : decide (0 < R) = true := by simp; omega
      have g3 : decide (0 < Ac) = false := by simp; omega
      have g4 : decide (0 < T) = false := by simp; omega
      have g6 : decide (KK < 1) = false := by simp; omega
      go_wp2_with fail
      refine (KH.out _ _ _).out.mono ?_
      rw [q4.out]
      rintro e w' ⟨rfl, rfl⟩
      go_wp2_with fail
      refine (KH.out _ _ _).out.mono ?_
      rw [q5.out]
      rintro e w' ⟨rfl, rfl⟩
      go_wp2_with fail
      go_loop [7, 8] (fun f i => FinR lg f i) (fun _ i => m - (intOf i).toNat)
      case atStart => exact ⟨0, Nat.zero_le _, rfl, rfl⟩
      case round =>
        clear KH
        obtain ⟨j, hj, rfl, rfl⟩ := hrel
        by_cases hjm : j < m
        · have hml := HM.out
          obtain ⟨x, hx⟩ : ∃ x, lg[j]? = some x := ⟨lg[j]'(by omega), List.getElem?_eq_getElem (by omega)⟩
          obtain ⟨bb, rfl, hbb, hne, hcb⟩ := HL.out (by omega)
          obtain ⟨_, a1, a2, _, _⟩ := hcb j x hx
          have hfn := fin_next hx
          have hord := UO.out j x hx
          have hjl : j + 1 ≤ lg.length := by omega
          generalize fin (lg.take j) = b at *
          have NEXT := Lib.hid (fun (z : Bool) (hz : z = (b || (x.out.kind == 3 && decide (200 ≤ x.out.code)))) => show FinR lg (.bool z) (.int .i64 (j + 1 : Nat)) from ⟨j + 1, hjl, rfl, by rw [hfn, hz]⟩)
          clear hml hcb hx hfn
          obtain ⟨xa, xk, xc, xt, xf⟩ := x
          simp only at a1 a2 hord
          by_cases h3 : xk = 3
          · subst h3
            cases b with
            | true =>
              have hc := hord rfl rfl
              have E := Lib.hid (show true = (true || ((3 : Int) == 3 && decide (200 ≤ xc))) by simp)
              have d1 : decide (xc < 200) = false := by simp; omega
              clear hord
              go_wp2_with fail
              go_round
              case rel => exact NEXT.out _ E.out
              case measure => simp [intOf]; omega
            | false =>
              clear hord
              by_cases hc : 200 ≤ xc
              · have E := Lib.hid (show true = (false || ((3 : Int) == 3 && decide (200 ≤ xc))) by simp [hc])
                go_wp2_with fail
                go_round
                case rel => exact NEXT.out _ E.out
                case measure => simp [intOf]; omega
              · have E := Lib.hid (show false = (false || ((3 : Int) == 3 && decide (200 ≤ xc))) by simp [hc])
                have d1 : decide (200 ≤ xc) = false := by simpa using hc
                go_wp2_with fail
                go_round
                case rel => exact NEXT.out _ E.out
                case measure => simp [intOf]; omega
          · have E := Lib.hid (show b = (b || (xk == 3 && decide (200 ≤ xc))) by simp [h3])
            have g3 : (xk != 3) = true := by simpa using h3
            clear hord h3
            go_wp2_with fail
            go_round
            case rel => exact NEXT.out _ E.out
            case measure => simp [intOf]; omega
        · have hjm' : ¬ j < m := hjm
          go_wp2_with fail
          refine (may_any _ _ _ _).mono ?_
          rintro e w' ⟨rfl, rfl⟩
          rw [hmay.out]
          go_wp2_with fail
          refine HC.out.mono ?_
          rintro e w3 ⟨rfl, q, rfl⟩
          have HA3 := Lib.hid ((HA.out.below ((Below.refl _ _).alloc (Nat.le_refl _) _)).below ⟨rfl, rfl, rfl, Nat.le_refl _, fun _ _ => rfl⟩ : At w g _ ((w2.alloc (.cells #[.int .u8 τ.m.st, .int .i64 τ.m.wait, .int .i64 τ.m.code] 26)).drewN q))
          clear c0 c1 c2 c17 c18 hgl HC HA
          go_wp2_with fail
          refine (works_any _).mono ?_
          rintro e w4 ⟨rfl, hb⟩
          have FIN := Lib.hid (HA3.out.below hb).bw
          clear hb
          go_wp2_with fail
          go_ret
          exact ⟨rfl, FIN.out⟩
  · by_cases hT : 0 < T
    · have g2 : decide (0 < R) = false := by simp; omega
      have g4 : decide (0 < T) = true := by simp; omega
      have g5 : decide (0 < G) = false := by simp; omega
      go_wp2_with fail
      refine (KH.out _ _ _).out.mono ?_
      rw [q4.out]
      rintro e w' ⟨rfl, rfl⟩
      go_wp2_with fail
      go_loop [7, 8] (fun f i => FinR lg f i) (fun _ i => m - (intOf i).toNat)
      case atStart => exact ⟨0, Nat.zero_le _, rfl, rfl⟩
      case round =>
        clear KH
        obtain ⟨j, hj, rfl, rfl⟩ := hrel
        by_cases hjm : j < m
        · have hml := HM.out
          obtain ⟨x, hx⟩ : ∃ x, lg[j]? = some x := ⟨lg[j]'(by omega), List.getElem?_eq_getElem (by omega)⟩
          obtain ⟨bb, rfl, hbb, hne, hcb⟩ := HL.out (by omega)
          obtain ⟨_, a1, a2, _, _⟩ := hcb j x hx
          have hfn := fin_next hx
          have hord := UO.out j x hx
          have hjl : j + 1 ≤ lg.length := by omega
          generalize fin (lg.take j) = b at *
          have NEXT := Lib.hid (fun (z : Bool) (hz : z = (b || (x.out.kind == 3 && decide (200 ≤ x.out.code)))) => show FinR lg (.bool z) (.int .i64 (j + 1 : Nat)) from ⟨j + 1, hjl, rfl, by rw [hfn, hz]⟩)
          clear hml hcb hx hfn
          obtain ⟨xa, xk, xc, xt, xf⟩ := x
          simp only at a1 a2 hord
          by_cases h3 : xk = 3
          · subst h3
            cases b with
            | true =>
              have hc := hord rfl rfl
              have E := Lib.hid (show true = (true || ((3 : Int) == 3 && decide (200 ≤ xc))) by simp)
              have d1 : decide (xc < 200) = false := by simp; omega
              clear hord
              go_wp2_with fail
              go_round
              case rel => exact NEXT.out _ E.out
              case measure => simp [intOf]; omega
            | false =>
              clear hord
              by_cases hc : 200 ≤ xc
              · have E := Lib.hid (show true = (false || ((3 : Int) == 3 && decide (200 ≤ xc))) by simp [hc])
                go_wp2_with fail
                go_round
                case rel => exact NEXT.out _ E.out
                case measure => simp [intOf]; omega
              · have E := Lib.hid (show false = (false || ((3 : Int) == 3 && decide (200 ≤ xc))) by simp [hc])
                have d1 : decide (200 ≤ xc) = false := by simpa using hc
                go_wp2_with fail
                go_round
                case rel => exact NEXT.out _ E.out
                case measure => simp [intOf]; omega
          · have E := Lib.hid (show b = (b || (xk == 3 && decide (200 ≤ xc))) by simp [h3])
            have g3 : (xk != 3) = true := by simpa using h3
            clear hord h3
            go_wp2_with fail
            go_round
            case rel => exact NEXT.out _ E.out
            case measure => simp [intOf]; omega
        · have hjm' : ¬ j < m := hjm
          go_wp2_with fail
          refine (may_any _ _ _ _).mono ?_
          rintro e w' ⟨rfl, rfl⟩
          rw [hmay.out]
          go_wp2_with fail
          refine HC.out.mono ?_
          rintro e w3 ⟨rfl, q, rfl⟩
          have HA3 := Lib.hid ((HA.out.below ((Below.refl _ _).alloc (Nat.le_refl _) _)).below ⟨rfl, rfl, rfl, Nat.le_refl _, fun _ _ => rfl⟩ : At w g _ ((w2.alloc (.cells #[.int .u8 τ.m.st, .int .i64 τ.m.wait, .int .i64 τ.m.code] 26)).drewN q))
          clear c0 c1 c2 c17 c18 hgl HC HA
          go_wp2_with fail
          refine (works_any _).mono ?_
          rintro e w4 ⟨rfl, hb⟩
          have FIN := Lib.hid (HA3.out.below hb).bw
          clear hb
          go_wp2_with fail
          go_ret
          exact ⟨rfl, FIN.out⟩
    · have g2 : decide (0 < R) = false := by simp; omega
      have g4 : decide (0 < T) = false := by simp; omega
      go_wp2_with fail
      refine (KH.out _ _ _).out.mono ?_
      rw [q4.out]
      rintro e w' ⟨rfl, rfl⟩
      go_wp2_with fail
      go_loop [7, 8] (fun f i => FinR lg f i) (fun _ i => m - (intOf i).toNat)
      case atStart => exact ⟨0, Nat.zero_le _, rfl, rfl⟩
      case round =>
        clear KH
        obtain ⟨j, hj, rfl, rfl⟩ := hrel
        by_cases hjm : j < m
        · have hml := HM.out
          obtain ⟨x, hx⟩ : ∃ x, lg[j]? = some x := ⟨lg[j]'(by omega), List.getElem?_eq_getElem (by omega)⟩
          obtain ⟨bb, rfl, hbb, hne, hcb⟩ := HL.out (by omega)
          obtain ⟨_, a1, a2, _, _⟩ := hcb j x hx
          have hfn := fin_next hx
          have hord := UO.out j x hx
          have hjl : j + 1 ≤ lg.length := by omega
          generalize fin (lg.take j) = b at *
          have NEXT := Lib.hid (fun (z : Bool) (hz : z = (b || (x.out.kind == 3 && decide (200 ≤ x.out.code)))) => show FinR lg (.bool z) (.int .i64 (j + 1 : Nat)) from ⟨j + 1, hjl, rfl, by rw [hfn, hz]⟩)
          clear hml hcb hx hfn
          obtain ⟨xa, xk, xc, xt, xf⟩ := x
          simp only at a1 a2 hord
          by_cases h3 : xk = 3
          · subst h3
            cases b with
            | true =>
              have hc := hord rfl rfl
              have E := Lib.hid (show true = (true || ((3 : Int) == 3 && decide (200 ≤ xc))) by simp)
              have d1 : decide (xc < 200) = false := by simp; omega
              clear hord
              go_wp2_with fail
              go_round
              case rel => exact NEXT.out _ E.out
              case measure => simp [intOf]; omega
            | false =>
              clear hord
              by_cases hc : 200 ≤ xc
              · have E := Lib.hid (show true = (false || ((3 : Int) == 3 && decide (200 ≤ xc))) by simp [hc])
                go_wp2_with fail
                go_round
                case rel => exact NEXT.out _ E.out
                case measure => simp [intOf]; omega
              · have E := Lib.hid (show false = (false || ((3 : Int) == 3 && decide (200 ≤ xc))) by simp [hc])
                have d1 : decide (200 ≤ xc) = false := by simpa using hc
                go_wp2_with fail
                go_round
                case rel => exact NEXT.out _ E.out
                case measure => simp [intOf]; omega
          · have E := Lib.hid (show b = (b || (xk == 3 && decide (200 ≤ xc))) by simp [h3])
            have g3 : (xk != 3) = true := by simpa using h3
            clear hord h3
            go_wp2_with fail
            go_round
            case rel => exact NEXT.out _ E.out
            case measure => simp [intOf]; omega
        · have hjm' : ¬ j < m := hjm
          go_wp2_with fail
          refine (may_any _ _ _ _).mono ?_
          rintro e w' ⟨rfl, rfl⟩
          rw [hmay.out]
          go_wp2_with fail
          refine HC.out.mono ?_
          rintro e w3 ⟨rfl, q, rfl⟩
          have HA3 := Lib.hid ((HA.out.below ((Below.refl _ _).alloc (Nat.le_refl _) _)).below ⟨rfl, rfl, rfl, Nat.le_refl _, fun _ _ => rfl⟩ : At w g _ ((w2.alloc (.cells #[.int .u8 τ.m.st, .int .i64 τ.m.wait, .int .i64 τ.m.code] 26)).drewN q))
          clear c0 c1 c2 c17 c18 hgl HC HA
          go_wp2_with fail
          refine (works_any _).mono ?_
          rintro e w4 ⟨rfl, hb⟩
          have FIN := Lib.hid (HA3.out.below hb).bw
          clear hb
          go_wp2_with fail
          go_ret
          exact ⟨rfl, FIN.out⟩
end Go.Proofs.Ytdooohanhekniaa
