/- InviteserverAnswers's call. -/
import Derived.Test.YtgjhnaionalbpaaTi
import Derived.Test.YtgjhnaionalbpaaP
import Derived.BigRegion
import Derived.Deep.DeepCutAuto
import Derived.Outline
namespace Go.Proofs.Ytgjhnaionalbpaa
open Go.RowKit

def AnsR (w : World) (g n : Nat) (s4 i : Value) (wr : World) : Prop :=
  ∃ (j : Nat) (τ : Sim), j ≤ n ∧ j ≤ 40 ∧ i = .int .i64 j ∧ s4 = .int .i64 τ.m.code ∧ At w g τ wr ∧ InvS τ ∧ τ.now ≤ 65535 * j ∧ τ.log.length ≤ 3 + 603 * j
def KindC (w2 : World) (s6 : Value) (wx : World) : Prop := ∃ k : Int, s6 = .int .u8 k ∧ (k = 1 ∨ k = 3 ∨ k = 4) ∧ w2 = wx
def PutC (w4 : World) (b3 n1 n2 : Nat) (s10 : Value) (wx : World) : Prop := ∃ (ad : Option Addr) (cp : Nat) (q : Nat), s10 = .slice ad (n2 - n1) cp ∧ w4.drewN q = wx ∧ (n1 < n2 → ad = some ⟨b3, n1 * 5, none⟩)
def SilC (st : Int) (W : World) (s11 : Value) (wx : World) : Prop := ∃ b : Bool, s11 = .bool b ∧ (b = true ↔ (st = 4 ∨ st = 6 ∨ st = 7)) ∧ W = wx
theorem ix0 (w : World) : (Instr.index 40 (.agg #[.int .u8 1, .int .u8 4, .int .u8 3, .int .u8 4]) (.int .u8 0)).run Try.prog w = .ok (.int .u8 1) w := by kernel_rfl
theorem ix1 (w : World) : (Instr.index 40 (.agg #[.int .u8 1, .int .u8 4, .int .u8 3, .int .u8 4]) (.int .u8 1)).run Try.prog w = .ok (.int .u8 4) w := by kernel_rfl
theorem ix2 (w : World) : (Instr.index 40 (.agg #[.int .u8 1, .int .u8 4, .int .u8 3, .int .u8 4]) (.int .u8 2)).run Try.prog w = .ok (.int .u8 3) w := by kernel_rfl
theorem ix3 (w : World) : (Instr.index 40 (.agg #[.int .u8 1, .int .u8 4, .int .u8 3, .int .u8 4]) (.int .u8 3)).run Try.prog w = .ok (.int .u8 4) w := by kernel_rfl

set_option maxRecDepth 100000 in
set_option maxHeartbeats 8000000 in
theorem answers_law (A : Option Addr) (n c : Nat) (l : List Ev) (w : World) (hl : Evs w A n l) (hkd : ∀ e ∈ l, 0 ≤ e.kind ∧ e.kind ≤ 255) (hn : (n : Int) ≤ 9223372036854775807) : Calls Try.prog 4 #[.slice A n c] w (TrueBelow w) := by
  have HL := Lib.hid hl; have HK := Lib.hid hkd
  clear hl hkd
  go_enter Try.func4, Try.ntmps4
  go_wp2_with fail
  refine (simstart_any _).mono ?_
  rintro e w1 ⟨g, v, rfl, hlo, hS, hv, hB⟩
  have A1 := Lib.hid (show At w g startS w1 from ⟨⟨v, hS, hv⟩, hlo, hB⟩)
  clear hS hv hB
  go_wp2_with fail
  go_loopw [4, 5] (fun s4 i wr => AnsR w g n s4 i wr) (fun _ i _ => 40 - (intOf i).toNat)
  case atStart => exact ⟨0, startS, Nat.zero_le _, Nat.zero_le _, rfl, rfl, A1.out, start_inv, by simp [startS_now], by have := startS_log; omega⟩
  case round =>
    clear A1 hlo
    obtain ⟨j, τ, hj, hj40, rfl, rfl, hA, hI, hn1, hlg⟩ := hrel
    have hn0 := hI.nw
    by_cases hlt : j < n ∧ j < 40
    · obtain ⟨hlt, hlt40⟩ := hlt
      have hnl := HL.out.1
      obtain ⟨x, hx⟩ : ∃ x, l[j]? = some x := ⟨l[j]'(by omega), List.getElem?_eq_getElem (by omega)⟩
      obtain ⟨b, o, rfl, hb, hcb⟩ := HL.out.2.2 (by omega)
      obtain ⟨a0, a1, a2⟩ := hcb j x hx
      obtain ⟨x0, x1⟩ := HL.out.2.1 x (List.mem_of_getElem? hx)
      obtain ⟨k0, k1⟩ := HK.out x (List.mem_of_getElem? hx)
      have hce : ∀ o, wr.cell? ⟨b, o, none⟩ = w.cell? ⟨b, o, none⟩ := fun o => hA.bw.cell (p := ⟨b, o, none⟩) hb
      rw [← hce] at a0 a1 a2
      have hbw : b < wr.heap.size := Nat.lt_of_lt_of_le hb hA.bw.size
      obtain ⟨v', hS, hv⟩ := hA.ex
      have c17 := hS.cnow
      have hgl := hS.lt
      have hU := until_any g τ v' (τ.now + x.wait) wr.drew hS.drew (by omega) hn0 (by omega) (by omega)
      have HU := Lib.hid hU; have HV := Lib.hid hv; have HA := Lib.hid hA
      have u1 := untilS_now τ (τ.now + x.wait) hn0 (by omega)
      have u2 := untilS_log τ (τ.now + x.wait)
      obtain ⟨u3, u4⟩ := hI.until_ (t := τ.now + x.wait) (by omega)
      have U1 := Lib.hid u1; have U3 := Lib.hid u3; have U4 := Lib.hid u4
      clear hU hv hA hce hcb hx hS u1 u3 u4 hnl HL HK hI
      obtain ⟨xw, xk, xc⟩ := x
      simp only at a0 a1 a2 x0 x1 k0 k1
      have hji : (0 : Int) ≤ (j : Int) := Int.natCast_nonneg _
      have hjn : (j : Int) < (n : Int) := by omega
      have hj4 : (j : Int) < 40 := by omega
      go_wp2_with fail
      have hw : IntKind.i64.wrap (τ.now + xw) = τ.now + xw := IntWalk.i64_in _ (by omega)
      go_still_tail 12, (by kernel_rfl)
      clear hw
      change wpList _ _ _ _ _ wr.drew
      go_wp2_with fail
      refine HU.out.mono ?_
      rintro e w2 ⟨rfl, h1⟩
      have A2 := At.take HV.out HA.out.lo HA.out.drew.bw h1
      obtain ⟨v2, hS2, hv2⟩ := A2.ex
      have hbb : ∀ o, w2.cell? ⟨b, o, none⟩ = w.cell? ⟨b, o, none⟩ := fun o => A2.bw.cell (p := ⟨b, o, none⟩) hb
      have hbo : ∀ o, wr.cell? ⟨b, o, none⟩ = w.cell? ⟨b, o, none⟩ := fun o => HA.out.bw.cell (p := ⟨b, o, none⟩) hb
      rw [hbo, ← hbb] at a1 a2
      have hbw2 : b < w2.heap.size := Nat.lt_of_lt_of_le hb A2.bw.size
      clear a0 c17 hgl HU HV HA h1 hbb hbo
      have us := U3.out.user
      have hS2' := hS2
      generalize untilS τ (τ.now + xw) = τ1 at *
      obtain ⟨A1', cap1, hv1, hcap1, _⟩ := hS2.logAt
      obtain ⟨c0, c1, c2⟩ := hS2.cm
      have c18 := hS2.clog
      have hgl := hS2.lt
      have hn1p : 0 < τ1.log.length := by
        rcases Nat.eq_zero_or_pos τ1.log.length with h | h
        · rw [List.length_eq_zero_iff.1 h] at us; simp [cnt] at us
        · exact h
      have hn1s : τ1.log.length ≤ 99000 := by omega
      rw [hv1] at c18
      have OV := Lib.hid (fun k hk => (hS2.own.lt k hk).2 : ∀ k, v2.ownBlock = some k → k < w2.heap.size)
      have SV := Lib.hid hS2; have MV := Lib.hid A2
      have HV2 := Lib.hid hv2
      clear hS2 hS2' A2 us hv1 hv2
      go_upto_region 7 with fail
      go_cut [6] (fun s6 wx => KindC w2 s6 wx)
      case first =>
        have i0 := ix0; have i1 := ix1; have i2 := ix2; have i3 := ix3
        have hk : xk % 4 = 0 ∨ xk % 4 = 1 ∨ xk % 4 = 2 ∨ xk % 4 = 3 := by omega
        rcases hk with hk | hk | hk | hk
        · go_wp2_with fail
          go_meet
          exact ⟨1, rfl, .inl rfl, rfl⟩
        · go_wp2_with fail
          go_meet
          exact ⟨4, rfl, .inr (.inr rfl), rfl⟩
        · go_wp2_with fail
          go_meet
          exact ⟨3, rfl, .inr (.inl rfl), rfl⟩
        · go_wp2_with fail
          go_meet
          exact ⟨4, rfl, .inr (.inr rfl), rfl⟩
      case rest =>
        obtain ⟨k, rfl, hk, rfl⟩ := hcut
        have KC := Lib.hid hk
        clear hk
        go_wp2_with fail
        generalize wrap64 (100 + wrap64 ((IntKind.u64.wrap xc).tmod 600)) = cc
        clear a1 a2
        go_region
        go_wp2_with fail
        refine (give_any g τ1 v2 k cc 0 _ ((SV.out.alloc _).drew) (by omega) (by rw [U1.out]; omega) (by rw [U1.out]; omega)).mono ?_
        rintro e w4 ⟨rfl, v3, hS3, hM3⟩
        have A3 : At w g (giveS τ1 ⟨k, cc, 0⟩) w4 := At.take HV2.out MV.out.lo ((MV.out.below ((Below.refl _ _).alloc (Nat.le_refl _) _)).drew).bw ⟨v3, hS3, hM3⟩
        have hI2 := give_inv U3.out k cc
        have glg := giveS_log τ1 ⟨k, cc, 0⟩
        have gnw := giveS_now τ1 ⟨k, cc, 0⟩
        have F1 := Lib.hid (show k = 1 → (giveS τ1 ⟨k, cc, 0⟩).m.code = τ1.m.code ∧ ((τ1.m.st = 4 ∨ τ1.m.st = 6 ∨ τ1.m.st = 7) → (giveS τ1 ⟨k, cc, 0⟩).log = τ1.log) ∧ (¬ (τ1.m.st = 4 ∨ τ1.m.st = 6 ∨ τ1.m.st = 7) → (giveS τ1 ⟨k, cc, 0⟩).log = τ1.log ++ [⟨τ1.now, ⟨1, τ1.m.code, 0, 0⟩⟩]) from fun e => by subst e; exact ans_1 U3.out cc)
        have F3 := Lib.hid (show k = 3 → (giveS τ1 ⟨k, cc, 0⟩).m.code = τ1.m.code from fun e => by subst e; exact ans_3 U3.out cc)
        have F4 := Lib.hid (show k = 4 → ((giveS τ1 ⟨k, cc, 0⟩).log.length = τ1.log.length ∧ (giveS τ1 ⟨k, cc, 0⟩).m.code = τ1.m.code) ∨ (τ1.log.length < (giveS τ1 ⟨k, cc, 0⟩).log.length ∧ (giveS τ1 ⟨k, cc, 0⟩).m.code = cc) from fun e => by subst e; exact ans_4 U3.out cc)
        generalize giveS τ1 ⟨k, cc, 0⟩ = τ2 at *
        have hbx : w4.heap[w2.heap.size]? = some (.cells #[.int .u8 τ1.m.st, .int .i64 τ1.m.wait, .int .i64 τ1.m.code] 26 (0, 0)) :=
          (hM3.block w2.heap.size (by simp) (by omega) (fun e => by have := OV.out _ e; omega)).trans (heap_alloc_new w2 _)
        have b0 : w4.cell? ⟨w2.heap.size, 0, none⟩ = some (.int .u8 τ1.m.st) := by rw [cell_of_row _ _ 0 _ 26 (0, 0) hbx]; rfl
        have hbz : w2.heap.size < w4.heap.size := Nat.lt_of_lt_of_le (by simp) hM3.size
        obtain ⟨A3', cap3, hv3, hcap3, hcl3⟩ := hS3.logAt
        obtain ⟨b3, rfl, hb3, hb3g, hcl3⟩ := hcl3 (by omega)
        have d18 := hS3.clog
        obtain ⟨d0, d1, d2⟩ := hS3.cm
        have hgl4 := hS3.lt
        rw [hv3] at d18
        have LG := Lib.hid hcl3; have HI2 := Lib.hid hI2; have HA3 := Lib.hid A3; have GN := Lib.hid gnw
        obtain ⟨glg0, glg1⟩ := glg
        generalize hn2 : τ2.log.length = n2 at *
        generalize hn1e : τ1.log.length = n1 at *
        have HN2 := Lib.hid hn2; have HN1 := Lib.hid hn1e
        clear hcl3 hI2 A3 gnw hS3 hM3 hv3 hbx c0 c1 c2 c18 hgl SV MV hn2 hn1e
        have hmin : ¬ ((n2 : Int) < (n1 : Int)) := by omega
        go_upto_region 11 with fail
        go_cut [10] (fun s10 wx => PutC w4 b3 n1 n2 s10 wx)
        case first =>
          by_cases hcc : cap3 = n1
          · obtain rfl : n2 = n1 := by omega
            subst hcc
            go_quiet (fail)
            go_wp2_with fail
            go_meet
            exact ⟨_, _, _, by rw [Nat.sub_self], rfl, fun h => absurd h (by omega)⟩
          · go_quiet (fail)
            go_wp2_with fail
            go_meet
            exact ⟨_, _, _, rfl, rfl, fun _ => rfl⟩
        case rest =>
          obtain ⟨ad, cp, q, rfl, rfl, had⟩ := hcut
          have HAD := Lib.hid had; clear had
          go_upto_region 12 with fail
          go_cut [11] (fun s11 wx => SilC τ1.m.st (w4.drewN q) s11 wx)
          case first =>
            by_cases h4 : τ1.m.st = 4
            · rw [h4] at b0
              go_wp2_with fail
              go_meet
              exact ⟨true, rfl, by simp [h4], rfl⟩
            by_cases h6 : τ1.m.st = 6
            · rw [h6] at b0
              go_wp2_with fail
              go_meet
              exact ⟨true, rfl, by simp [h6], rfl⟩
            by_cases h7 : τ1.m.st = 7
            · rw [h7] at b0
              go_wp2_with fail
              go_meet
              exact ⟨true, rfl, by simp [h7], rfl⟩
            have z4 : (τ1.m.st == 4) = false := by simpa using h4
            have z6 : (τ1.m.st == 6) = false := by simpa using h6
            have z7 : (τ1.m.st == 7) = false := by simpa using h7
            have Z := Lib.hid (⟨h4, h6, h7⟩ : ¬ τ1.m.st = 4 ∧ ¬ τ1.m.st = 6 ∧ ¬ τ1.m.st = 7)
            clear h4 h6 h7
            go_wp2_with fail
            go_meet
            exact ⟨false, rfl, by have := Z.out; simp [this.1, this.2.1, this.2.2], rfl⟩
          case rest =>
            obtain ⟨sil, rfl, hsil, rfl⟩ := hcut
            have HSI := Lib.hid hsil
            clear hsil b0
            rcases KC.out with rfl | rfl | rfl
            · have hcode : τ2.m.code = τ.m.code := (F1.out rfl).1.trans U4.out
              rw [hcode] at d2
              have HCO := Lib.hid hcode
              clear hcode
              cases sil with
              | true =>
                have e2 := (F1.out rfl).2.1 (HSI.out.1 rfl)
                obtain rfl : n2 = n1 := by rw [← HN2.out, e2, HN1.out]
                simp only [Nat.sub_self]
                clear e2
                go_wp2_with fail
                refine (may_any _ _ _ _).mono ?_
                rintro e w' ⟨rfl, rfl⟩
                have hmy := HI2.out.may
                rw [HCO.out] at hmy
                rw [hmy]
                clear hmy
                have FIN := Lib.hid (show AnsR w g n (.int .i64 τ.m.code) (.int .i64 (j + 1 : Nat)) ((w4.drewN q).alloc (.cells #[.int .u8 τ2.m.st, .int .i64 τ2.m.wait, .int .i64 τ.m.code] 26)) from
                  ⟨j + 1, τ2, by omega, by omega, rfl, by rw [HCO.out], (HA3.out.below ⟨rfl, rfl, rfl, Nat.le_refl _, fun _ _ => rfl⟩ : At w g τ2 (w4.drewN q)).below ((Below.refl _ _).alloc (Nat.le_refl _) _), HI2.out, by rw [GN.out, U1.out]; push_cast; omega, by rw [HN2.out]; omega⟩)
                clear HA3 HI2
                go_wp2_with fail
                go_roundw
                case rel => exact FIN.out
                case measure => simp [intOf]; omega
              | false =>
                have hns : ¬ (τ1.m.st = 4 ∨ τ1.m.st = 6 ∨ τ1.m.st = 7) := fun h => by have := HSI.out.2 h; cases this
                have e2 := (F1.out rfl).2.2 hns
                obtain rfl : n2 = n1 + 1 := by rw [← HN2.out, e2, ← HN1.out]; simp
                obtain rfl := HAD.out (by omega)
                obtain ⟨_, y1, y2, y3, y4⟩ := LG.out n1 ⟨τ1.now, ⟨1, τ1.m.code, 0, 0⟩⟩ (by rw [e2, ← HN1.out]; simp)
                simp only [U4.out] at y1 y2 y3 y4
                simp only [Nat.add_sub_cancel_left]
                clear e2 hns
                go_wp2_with fail
                refine (may_any _ _ _ _).mono ?_
                rintro e w' ⟨rfl, rfl⟩
                have hmy := HI2.out.may
                rw [HCO.out] at hmy
                rw [hmy]
                clear hmy
                have FIN := Lib.hid (show AnsR w g n (.int .i64 τ.m.code) (.int .i64 (j + 1 : Nat)) ((w4.drewN q).alloc (.cells #[.int .u8 τ2.m.st, .int .i64 τ2.m.wait, .int .i64 τ.m.code] 26)) from
                  ⟨j + 1, τ2, by omega, by omega, rfl, by rw [HCO.out], (HA3.out.below ⟨rfl, rfl, rfl, Nat.le_refl _, fun _ _ => rfl⟩ : At w g τ2 (w4.drewN q)).below ((Below.refl _ _).alloc (Nat.le_refl _) _), HI2.out, by rw [GN.out, U1.out]; push_cast; omega, by rw [HN2.out]; omega⟩)
                clear HA3 HI2
                go_wp2_with fail
                go_roundw
                case rel => exact FIN.out
                case measure => simp [intOf]; omega
            · have hcode : τ2.m.code = τ.m.code := (F3.out rfl).trans U4.out
              rw [hcode] at d2
              have HCO := Lib.hid hcode
              clear hcode
              go_wp2_with fail
              refine (may_any _ _ _ _).mono ?_
              rintro e w' ⟨rfl, rfl⟩
              have hmy := HI2.out.may
              rw [HCO.out] at hmy
              rw [hmy]
              clear hmy
              have FIN := Lib.hid (show AnsR w g n (.int .i64 τ.m.code) (.int .i64 (j + 1 : Nat)) ((w4.drewN q).alloc (.cells #[.int .u8 τ2.m.st, .int .i64 τ2.m.wait, .int .i64 τ.m.code] 26)) from
                ⟨j + 1, τ2, by omega, by omega, rfl, by rw [HCO.out], (HA3.out.below ⟨rfl, rfl, rfl, Nat.le_refl _, fun _ _ => rfl⟩ : At w g τ2 (w4.drewN q)).below ((Below.refl _ _).alloc (Nat.le_refl _) _), HI2.out, by rw [GN.out, U1.out]; push_cast; omega, by rw [HN2.out]; omega⟩)
              clear HA3 HI2
              go_wp2_with fail
              go_roundw
              case rel => exact FIN.out
              case measure => simp [intOf]; omega
            · rcases F4.out rfl with ⟨e2, e3⟩ | ⟨e2, e3⟩
              · have hcode : τ2.m.code = τ.m.code := e3.trans U4.out
                rw [hcode] at d2
                have HCO := Lib.hid hcode
                obtain rfl : n2 = n1 := e2
                simp only [Nat.sub_self]
                clear hcode e3
                go_wp2_with fail
                refine (may_any _ _ _ _).mono ?_
                rintro e w' ⟨rfl, rfl⟩
                have hmy := HI2.out.may
                rw [HCO.out] at hmy
                rw [hmy]
                clear hmy
                have FIN := Lib.hid (show AnsR w g n (.int .i64 τ.m.code) (.int .i64 (j + 1 : Nat)) ((w4.drewN q).alloc (.cells #[.int .u8 τ2.m.st, .int .i64 τ2.m.wait, .int .i64 τ.m.code] 26)) from
                  ⟨j + 1, τ2, by omega, by omega, rfl, by rw [HCO.out], (HA3.out.below ⟨rfl, rfl, rfl, Nat.le_refl _, fun _ _ => rfl⟩ : At w g τ2 (w4.drewN q)).below ((Below.refl _ _).alloc (Nat.le_refl _) _), HI2.out, by rw [GN.out, U1.out]; push_cast; omega, by rw [HN2.out]; omega⟩)
                clear HA3 HI2
                go_wp2_with fail
                go_roundw
                case rel => exact FIN.out
                case measure => simp [intOf]; omega
              · rw [e3] at d2
                have HCO := Lib.hid e3
                have hlt2 : n1 < n2 := e2
                have hm0 : 0 < n2 - n1 := by omega
                generalize n2 - n1 = m at *
                clear e2 e3
                go_wp2_with fail
                refine (may_any _ _ _ _).mono ?_
                rintro e w' ⟨rfl, rfl⟩
                have hmy := HI2.out.may
                rw [HCO.out] at hmy
                rw [hmy]
                clear hmy
                have FIN := Lib.hid (show AnsR w g n (.int .i64 cc) (.int .i64 (j + 1 : Nat)) ((w4.drewN q).alloc (.cells #[.int .u8 τ2.m.st, .int .i64 τ2.m.wait, .int .i64 cc] 26)) from
                  ⟨j + 1, τ2, by omega, by omega, rfl, by rw [HCO.out], (HA3.out.below ⟨rfl, rfl, rfl, Nat.le_refl _, fun _ _ => rfl⟩ : At w g τ2 (w4.drewN q)).below ((Below.refl _ _).alloc (Nat.le_refl _) _), HI2.out, by rw [GN.out, U1.out]; push_cast; omega, by rw [HN2.out]; omega⟩)
                clear HA3 HI2
                go_wp2_with fail
                go_roundw
                case rel => exact FIN.out
                case measure => simp [intOf]; omega
    · have hcl := hI.closed
      have hus := hI.user
      obtain ⟨v', hS, hv⟩ := hA.ex
      have c17 := hS.cnow
      have hgl := hS.lt
      have KU := Lib.hid (count_any g τ v' 3 τ.now 0 1000 wr hS (by omega))
      have HC := Lib.hid (closed_any g τ v' wr hS (by omega) hcl)
      have HUS := Lib.hid hus; have HA := Lib.hid hA
      clear hcl hus hS hv hA hI HL HK
      by_cases hltn : j < n
      · have h40 : ¬ j < 40 := by omega
        clear hlt
        go_wp2_with fail
        refine KU.out.mono ?_
        rw [HUS.out]
        rintro e w' ⟨rfl, rfl⟩
        go_wp2_with fail
        refine HC.out.mono ?_
        rintro e w3 ⟨rfl, q, rfl⟩
        have HA3 := Lib.hid (HA.out.below ⟨rfl, rfl, rfl, Nat.le_refl _, fun _ _ => rfl⟩ : At w g _ (wr.drewN q))
        clear c17 hgl HC HA
        go_wp2_with fail
        refine (works_any _).mono ?_
        rintro e w4 ⟨rfl, hb⟩
        have FIN := Lib.hid (HA3.out.below hb).bw
        clear hb
        go_wp2_with fail
        go_ret
        exact ⟨rfl, FIN.out⟩
      · clear hlt
        go_wp2_with fail
        refine KU.out.mono ?_
        rw [HUS.out]
        rintro e w' ⟨rfl, rfl⟩
        go_wp2_with fail
        refine HC.out.mono ?_
        rintro e w3 ⟨rfl, q, rfl⟩
        have HA3 := Lib.hid (HA.out.below ⟨rfl, rfl, rfl, Nat.le_refl _, fun _ _ => rfl⟩ : At w g _ (wr.drewN q))
        clear c17 hgl HC HA
        go_wp2_with fail
        refine (works_any _).mono ?_
        rintro e w4 ⟨rfl, hb⟩
        have FIN := Lib.hid (HA3.out.below hb).bw
        clear hb
        go_wp2_with fail
        go_ret
        exact ⟨rfl, FIN.out⟩
end Go.Proofs.Ytgjhnaionalbpaa
