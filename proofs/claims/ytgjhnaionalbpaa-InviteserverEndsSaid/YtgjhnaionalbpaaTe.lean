/- InviteserverEnds's call. -/
import Derived.Test.YtgjhnaionalbpaaTd
import Derived.Test.YtgjhnaionalbpaaP
namespace Go.Proofs.Ytgjhnaionalbpaa
open Go.RowKit

def ConR (l : List Ent) (f i : Value) : Prop := ∃ j : Nat, j ≤ l.length ∧ i = .int .i64 j ∧ f = .bool (conf (l.take j))
theorem conf_next {l : List Ent} {j : Nat} {x : Ent} (hx : l[j]? = some x) : conf (l.take (j + 1)) = (conf (l.take j) || (x.out.kind == 4 && x.out.timer == 9)) := by
  rw [List.take_add_one, hx, ← conf_snoc]; rfl

set_option maxRecDepth 100000 in
set_option maxHeartbeats 8000000 in
theorem ends_law (A : Option Addr) (n c : Nat) (l : List Ev) (w : World) (hl : Evs w A n l) (hn : (n : Int) ≤ 9223372036854775807) : Calls Try.prog 5 #[.slice A n c] w (TrueBelow w) := by
  obtain ⟨hinv, hnow, hlog⟩ := play_inv l hl.2.1
  have HP := Lib.hid (play_any A n c l w hl hn)
  have hn0 := hinv.nw
  have hul := untilS_log (playS l) ((playS l).now + 40000)
  obtain ⟨e1, e2⟩ := ends_fact hinv
  have hcl := Lib.hid e1.closed
  have E2 := Lib.hid e2
  generalize playS l = σ at *
  clear hl hn e1 e2 hinv
  go_enter Try.func5, Try.ntmps5
  go_wp2_with fail
  refine HP.out.mono ?_
  rintro e w1 ⟨g, v, rfl, hlo, hS, hv, hB⟩
  have c17 := hS.cnow
  have hgl := hS.lt
  have HU := Lib.hid (until_any g σ v (σ.now + 40000) w1 hS (by omega) hn0 (by omega) (by omega))
  have HV := Lib.hid hv; have HB := Lib.hid hB
  clear hS hv hB HP
  go_wp2_with fail
  refine HU.out.mono ?_
  rintro e w2 ⟨rfl, h1⟩
  have A2 := At.take HV.out hlo HB.out h1
  clear c17 hgl HU h1
  generalize untilS σ (σ.now + 40000) = τ at *
  obtain ⟨v2, hS2, hv2⟩ := A2.ex
  have hlt : τ.log.length ≤ 200000 := by omega
  have c17 := hS2.cnow
  have c0 := hS2.cm.1
  have c18 := hS2.clog
  have hgl := hS2.lt
  have K := fun k a b => Lib.hid (count_any g τ v2 k τ.now a b w2 hS2 hlt)
  have KH := Lib.hid K
  have HC := Lib.hid (closed_any g τ v2 w2 hS2 hlt hcl.out)
  obtain ⟨A', cap, hv', hcap, hcells⟩ := hS2.logAt
  have HL := Lib.hid hcells
  have HA := Lib.hid A2
  rw [hv'] at c18
  clear A2 hS2 hv2 HV HB K hv' hcells hcl
  rcases E2.out with ⟨s3, q0⟩ | ⟨s7, t1, tiff⟩
  · rw [s3] at c0
    have Q0 := Lib.hid q0
    clear s3 q0 c18
    go_wp2_with fail
    refine (KH.out _ _ _).out.mono ?_
    rw [Q0.out]
    rintro e w' ⟨rfl, rfl⟩
    go_wp2_with fail
    refine HC.out.mono ?_
    rintro e w3 ⟨rfl, q, rfl⟩
    have HA3 := Lib.hid (HA.out.below ⟨rfl, rfl, rfl, Nat.le_refl _, fun _ _ => rfl⟩ : At w g _ (w2.drewN q))
    clear c0 hgl HC HA
    go_wp2_with fail
    refine (works_any _).mono ?_
    rintro e w4 ⟨rfl, hb⟩
    have FIN := Lib.hid (HA3.out.below hb).bw
    clear hb
    go_wp2_with fail
    go_ret
    exact ⟨rfl, FIN.out⟩
  rw [s7] at c0
  have r0 := cnt_range 1 τ.now 300 699 τ.log
  have r1 := cnt_range 5 τ.now 0 1000 τ.log
  have r2 := cnt_range 6 τ.now 0 1000 τ.log
  generalize τ.log = lg at *
  generalize hR : cnt 1 τ.now 300 699 lg = R at *
  generalize hT : cnt 5 τ.now 0 1000 lg = T at *
  generalize hF : cnt 6 τ.now 0 1000 lg = F at *
  have q1 := Lib.hid hR; have q2 := Lib.hid hT; have q3 := Lib.hid hF; have TI := Lib.hid tiff
  clear hR hT hF s7 tiff E2
  obtain ⟨m, hm⟩ : ∃ m, m = lg.length := ⟨_, rfl⟩
  have HM := Lib.hid hm
  rw [← hm] at hlt c18 hcap
  clear hm
  go_wp2_with fail
  refine (KH.out _ _ _).out.mono ?_
  rw [q1.out]
  rintro e w' ⟨rfl, rfl⟩
  by_cases hR : 0 < R
  · have gR : decide (0 < R) = true := by simp; omega
    go_wp2_with fail
    go_loop [5, 6] (fun f i => ConR lg f i) (fun _ i => m - (intOf i).toNat)
    case atStart => exact ⟨0, Nat.zero_le _, rfl, rfl⟩
    case round =>
      obtain ⟨j, hj, rfl, rfl⟩ := hrel
      by_cases hjm : j < m
      · clear KH TI
        have hml := HM.out
        obtain ⟨x, hx⟩ : ∃ x, lg[j]? = some x := ⟨lg[j]'(by omega), List.getElem?_eq_getElem (by omega)⟩
        obtain ⟨bb, rfl, hbb, hne, hcb⟩ := HL.out (by omega)
        obtain ⟨_, a1, _, a3, _⟩ := hcb j x hx
        have hfn := conf_next hx
        have hjl : j + 1 ≤ lg.length := by omega
        generalize conf (lg.take j) = b at *
        have NEXT := Lib.hid (fun (z : Bool) (hz : z = (b || (x.out.kind == 4 && x.out.timer == 9))) => show ConR lg (.bool z) (.int .i64 (j + 1 : Nat)) from ⟨j + 1, hjl, rfl, by rw [hfn, hz]⟩)
        clear hml hcb hx hfn
        obtain ⟨xa, xk, xc, xt, xf⟩ := x
        simp only at a1 a3
        cases b with
        | true =>
          have E := Lib.hid (show true = (true || (xk == 4 && xt == 9)) by simp)
          go_wp2_with fail
          go_round
          case rel => exact NEXT.out _ E.out
          case measure => simp [intOf]; omega
        | false =>
          by_cases h4 : xk = 4
          · by_cases h9 : xt = 9
            · have E := Lib.hid (show true = (false || (xk == 4 && xt == 9)) by simp [h4, h9])
              have d1 : (xk == 4) = true := by simpa using h4
              have d2 : (xt == 9) = true := by simpa using h9
              clear h4 h9
              go_wp2_with fail
              go_round
              case rel => exact NEXT.out _ E.out
              case measure => simp [intOf]; omega
            · have E := Lib.hid (show false = (false || (xk == 4 && xt == 9)) by simp [h9])
              have d1 : (xk == 4) = true := by simpa using h4
              have d2 : (xt == 9) = false := by simpa using h9
              clear h4 h9
              go_wp2_with fail
              go_round
              case rel => exact NEXT.out _ E.out
              case measure => simp [intOf]; omega
          · have E := Lib.hid (show false = (false || (xk == 4 && xt == 9)) by simp [h4])
            have d1 : (xk == 4) = false := by simpa using h4
            clear h4
            go_wp2_with fail
            go_round
            case rel => exact NEXT.out _ E.out
            case measure => simp [intOf]; omega
      · have hjm' : ¬ j < m := hjm
        have hcf : conf (lg.take j) = conf lg := by rw [List.take_of_length_le (by have := HM.out; omega)]
        rw [hcf]
        clear hcf
        generalize conf lg = cf at *
        cases cf with
        | true =>
          have hcf : true = true := rfl
          by_cases hF : 0 < F
          · have gF : decide (0 < F) = true := by simp; omega
            have gT : (T == 1) = false := by
              have h := TI.out.1
              simp only [beq_eq_false_iff_ne]
              intro e
              have h' := h e
              rw [hcf] at h'; exact absurd h'.2.1 (by simp)
            have gT1 : decide (T ≤ 1) = true := by simpa using t1
            clear hcf TI
            go_wp2_with fail
            refine (KH.out _ _ _).out.mono ?_
            rw [q3.out]
            rintro e w' ⟨rfl, rfl⟩
            go_wp2_with fail
            refine (KH.out _ _ _).out.mono ?_
            rw [q2.out]
            rintro e w' ⟨rfl, rfl⟩
            go_wp2_with fail
            refine HC.out.mono ?_
            rintro e w3 ⟨rfl, q, rfl⟩
            have HA3 := Lib.hid (HA.out.below ⟨rfl, rfl, rfl, Nat.le_refl _, fun _ _ => rfl⟩ : At w g _ (w2.drewN q))
            clear c0 c17 c18 hgl HC HA
            go_wp2_with fail
            refine (works_any _).mono ?_
            rintro e w4 ⟨rfl, hb⟩
            have FIN := Lib.hid (HA3.out.below hb).bw
            clear hb
            go_wp2_with fail
            go_ret
            exact ⟨rfl, FIN.out⟩
          · have gF : decide (0 < F) = false := by simp; omega
            have gT : (T == 1) = false := by
              have h := TI.out.1
              simp only [beq_eq_false_iff_ne]
              intro e
              have h' := h e
              rw [hcf] at h'; exact absurd h'.2.1 (by simp)
            have gT1 : decide (T ≤ 1) = true := by simpa using t1
            clear hcf TI
            go_wp2_with fail
            refine (KH.out _ _ _).out.mono ?_
            rw [q3.out]
            rintro e w' ⟨rfl, rfl⟩
            go_wp2_with fail
            refine (KH.out _ _ _).out.mono ?_
            rw [q2.out]
            rintro e w' ⟨rfl, rfl⟩
            go_wp2_with fail
            refine HC.out.mono ?_
            rintro e w3 ⟨rfl, q, rfl⟩
            have HA3 := Lib.hid (HA.out.below ⟨rfl, rfl, rfl, Nat.le_refl _, fun _ _ => rfl⟩ : At w g _ (w2.drewN q))
            clear c0 c17 c18 hgl HC HA
            go_wp2_with fail
            refine (works_any _).mono ?_
            rintro e w4 ⟨rfl, hb⟩
            have FIN := Lib.hid (HA3.out.below hb).bw
            clear hb
            go_wp2_with fail
            go_ret
            exact ⟨rfl, FIN.out⟩
        | false =>
          have hcf : false = false := rfl
          by_cases hF : 0 < F
          · have gF : decide (0 < F) = true := by simp; omega
            have gT : (T == 1) = false := by
              have h := TI.out.1
              simp only [beq_eq_false_iff_ne]
              intro e
              have h' := h e
              omega
            have gT1 : decide (T ≤ 1) = true := by simpa using t1
            clear hcf TI
            go_wp2_with fail
            refine (KH.out _ _ _).out.mono ?_
            rw [q3.out]
            rintro e w' ⟨rfl, rfl⟩
            go_wp2_with fail
            refine (KH.out _ _ _).out.mono ?_
            rw [q2.out]
            rintro e w' ⟨rfl, rfl⟩
            go_wp2_with fail
            refine HC.out.mono ?_
            rintro e w3 ⟨rfl, q, rfl⟩
            have HA3 := Lib.hid (HA.out.below ⟨rfl, rfl, rfl, Nat.le_refl _, fun _ _ => rfl⟩ : At w g _ (w2.drewN q))
            clear c0 c17 c18 hgl HC HA
            go_wp2_with fail
            refine (works_any _).mono ?_
            rintro e w4 ⟨rfl, hb⟩
            have FIN := Lib.hid (HA3.out.below hb).bw
            clear hb
            go_wp2_with fail
            go_ret
            exact ⟨rfl, FIN.out⟩
          · have gF : decide (0 < F) = false := by simp; omega
            have gT : (T == 1) = true := by simpa using TI.out.2 ⟨by omega, hcf, by omega⟩
            have gT1 : decide (T ≤ 1) = true := by simpa using t1
            clear hcf TI
            go_wp2_with fail
            refine (KH.out _ _ _).out.mono ?_
            rw [q3.out]
            rintro e w' ⟨rfl, rfl⟩
            go_wp2_with fail
            refine (KH.out _ _ _).out.mono ?_
            rw [q2.out]
            rintro e w' ⟨rfl, rfl⟩
            go_wp2_with fail
            refine HC.out.mono ?_
            rintro e w3 ⟨rfl, q, rfl⟩
            have HA3 := Lib.hid (HA.out.below ⟨rfl, rfl, rfl, Nat.le_refl _, fun _ _ => rfl⟩ : At w g _ (w2.drewN q))
            clear c0 c17 c18 hgl HC HA
            go_wp2_with fail
            refine (works_any _).mono ?_
            rintro e w4 ⟨rfl, hb⟩
            have FIN := Lib.hid (HA3.out.below hb).bw
            clear hb
            go_wp2_with fail
            go_ret
            exact ⟨rfl, FIN.out⟩
  · have gR : decide (0 < R) = false := by simp; omega
    go_wp2_with fail
    go_loop [5, 6] (fun f i => ConR lg f i) (fun _ i => m - (intOf i).toNat)
    case atStart => exact ⟨0, Nat.zero_le _, rfl, rfl⟩
    case round =>
      obtain ⟨j, hj, rfl, rfl⟩ := hrel
      by_cases hjm : j < m
      · clear KH TI
        have hml := HM.out
        obtain ⟨x, hx⟩ : ∃ x, lg[j]? = some x := ⟨lg[j]'(by omega), List.getElem?_eq_getElem (by omega)⟩
        obtain ⟨bb, rfl, hbb, hne, hcb⟩ := HL.out (by omega)
        obtain ⟨_, a1, _, a3, _⟩ := hcb j x hx
        have hfn := conf_next hx
        have hjl : j + 1 ≤ lg.length := by omega
        generalize conf (lg.take j) = b at *
        have NEXT := Lib.hid (fun (z : Bool) (hz : z = (b || (x.out.kind == 4 && x.out.timer == 9))) => show ConR lg (.bool z) (.int .i64 (j + 1 : Nat)) from ⟨j + 1, hjl, rfl, by rw [hfn, hz]⟩)
        clear hml hcb hx hfn
        obtain ⟨xa, xk, xc, xt, xf⟩ := x
        simp only at a1 a3
        cases b with
        | true =>
          have E := Lib.hid (show true = (true || (xk == 4 && xt == 9)) by simp)
          go_wp2_with fail
          go_round
          case rel => exact NEXT.out _ E.out
          case measure => simp [intOf]; omega
        | false =>
          by_cases h4 : xk = 4
          · by_cases h9 : xt = 9
            · have E := Lib.hid (show true = (false || (xk == 4 && xt == 9)) by simp [h4, h9])
              have d1 : (xk == 4) = true := by simpa using h4
              have d2 : (xt == 9) = true := by simpa using h9
              clear h4 h9
              go_wp2_with fail
              go_round
              case rel => exact NEXT.out _ E.out
              case measure => simp [intOf]; omega
            · have E := Lib.hid (show false = (false || (xk == 4 && xt == 9)) by simp [h9])
              have d1 : (xk == 4) = true := by simpa using h4
              have d2 : (xt == 9) = false := by simpa using h9
              clear h4 h9
              go_wp2_with fail
              go_round
              case rel => exact NEXT.out _ E.out
              case measure => simp [intOf]; omega
          · have E := Lib.hid (show false = (false || (xk == 4 && xt == 9)) by simp [h4])
            have d1 : (xk == 4) = false := by simpa using h4
            clear h4
            go_wp2_with fail
            go_round
            case rel => exact NEXT.out _ E.out
            case measure => simp [intOf]; omega
      · have hjm' : ¬ j < m := hjm
        have hcf : conf (lg.take j) = conf lg := by rw [List.take_of_length_le (by have := HM.out; omega)]
        rw [hcf]
        clear hcf
        generalize conf lg = cf at *
        cases cf with
        | true =>
          have hcf : true = true := rfl
          by_cases hF : 0 < F
          · have gF : decide (0 < F) = true := by simp; omega
            have gT : (T == 1) = false := by
              have h := TI.out.1
              simp only [beq_eq_false_iff_ne]
              intro e
              have h' := h e
              rw [hcf] at h'; exact absurd h'.2.1 (by simp)
            have gT1 : decide (T ≤ 1) = true := by simpa using t1
            clear hcf TI
            go_wp2_with fail
            refine (KH.out _ _ _).out.mono ?_
            rw [q3.out]
            rintro e w' ⟨rfl, rfl⟩
            go_wp2_with fail
            refine (KH.out _ _ _).out.mono ?_
            rw [q2.out]
            rintro e w' ⟨rfl, rfl⟩
            go_wp2_with fail
            refine HC.out.mono ?_
            rintro e w3 ⟨rfl, q, rfl⟩
            have HA3 := Lib.hid (HA.out.below ⟨rfl, rfl, rfl, Nat.le_refl _, fun _ _ => rfl⟩ : At w g _ (w2.drewN q))
            clear c0 c17 c18 hgl HC HA
            go_wp2_with fail
            refine (works_any _).mono ?_
            rintro e w4 ⟨rfl, hb⟩
            have FIN := Lib.hid (HA3.out.below hb).bw
            clear hb
            go_wp2_with fail
            go_ret
            exact ⟨rfl, FIN.out⟩
          · have gF : decide (0 < F) = false := by simp; omega
            have gT : (T == 1) = false := by
              have h := TI.out.1
              simp only [beq_eq_false_iff_ne]
              intro e
              have h' := h e
              rw [hcf] at h'; exact absurd h'.2.1 (by simp)
            have gT1 : decide (T ≤ 1) = true := by simpa using t1
            clear hcf TI
            go_wp2_with fail
            refine (KH.out _ _ _).out.mono ?_
            rw [q3.out]
            rintro e w' ⟨rfl, rfl⟩
            go_wp2_with fail
            refine (KH.out _ _ _).out.mono ?_
            rw [q2.out]
            rintro e w' ⟨rfl, rfl⟩
            go_wp2_with fail
            refine HC.out.mono ?_
            rintro e w3 ⟨rfl, q, rfl⟩
            have HA3 := Lib.hid (HA.out.below ⟨rfl, rfl, rfl, Nat.le_refl _, fun _ _ => rfl⟩ : At w g _ (w2.drewN q))
            clear c0 c17 c18 hgl HC HA
            go_wp2_with fail
            refine (works_any _).mono ?_
            rintro e w4 ⟨rfl, hb⟩
            have FIN := Lib.hid (HA3.out.below hb).bw
            clear hb
            go_wp2_with fail
            go_ret
            exact ⟨rfl, FIN.out⟩
        | false =>
          have hcf : false = false := rfl
          by_cases hF : 0 < F
          · have gF : decide (0 < F) = true := by simp; omega
            have gT : (T == 1) = false := by
              have h := TI.out.1
              simp only [beq_eq_false_iff_ne]
              intro e
              have h' := h e
              omega
            have gT1 : decide (T ≤ 1) = true := by simpa using t1
            clear hcf TI
            go_wp2_with fail
            refine (KH.out _ _ _).out.mono ?_
            rw [q3.out]
            rintro e w' ⟨rfl, rfl⟩
            go_wp2_with fail
            refine (KH.out _ _ _).out.mono ?_
            rw [q2.out]
            rintro e w' ⟨rfl, rfl⟩
            go_wp2_with fail
            refine HC.out.mono ?_
            rintro e w3 ⟨rfl, q, rfl⟩
            have HA3 := Lib.hid (HA.out.below ⟨rfl, rfl, rfl, Nat.le_refl _, fun _ _ => rfl⟩ : At w g _ (w2.drewN q))
            clear c0 c17 c18 hgl HC HA
            go_wp2_with fail
            refine (works_any _).mono ?_
            rintro e w4 ⟨rfl, hb⟩
            have FIN := Lib.hid (HA3.out.below hb).bw
            clear hb
            go_wp2_with fail
            go_ret
            exact ⟨rfl, FIN.out⟩
          · have gF : decide (0 < F) = false := by simp; omega
            have gT : (T == 1) = false := by
              have h := TI.out.1
              simp only [beq_eq_false_iff_ne]
              intro e
              have h' := h e
              omega
            have gT1 : decide (T ≤ 1) = true := by simpa using t1
            clear hcf TI
            go_wp2_with fail
            refine (KH.out _ _ _).out.mono ?_
            rw [q3.out]
            rintro e w' ⟨rfl, rfl⟩
            go_wp2_with fail
            refine (KH.out _ _ _).out.mono ?_
            rw [q2.out]
            rintro e w' ⟨rfl, rfl⟩
            go_wp2_with fail
            refine HC.out.mono ?_
            rintro e w3 ⟨rfl, q, rfl⟩
            have HA3 := Lib.hid (HA.out.below ⟨rfl, rfl, rfl, Nat.le_refl _, fun _ _ => rfl⟩ : At w g _ (w2.drewN q))
            clear c0 c17 c18 hgl HC HA
            go_wp2_with fail
            refine (works_any _).mono ?_
            rintro e w4 ⟨rfl, hb⟩
            have FIN := Lib.hid (HA3.out.below hb).bw
            clear hb
            go_wp2_with fail
            go_ret
            exact ⟨rfl, FIN.out⟩
end Go.Proofs.Ytgjhnaionalbpaa
