/- The contract of the simulated machine's play. -/
import Derived.Test.YtdooohanhekniaaSf
import Derived.StillTailTactics
namespace Go.Proofs.Ytdooohanhekniaa
open Go.RowKit

structure Ev where
  wait : Int
  kind : Int
  code : Int
def playOne (σ : Sim) (e : Ev) : Sim := giveS (untilS σ (σ.now + e.wait)) ⟨e.kind, e.code, 0⟩
def playS (l : List Ev) : Sim := (l.take 40).foldl playOne startS

theorem untilR_now (t B : Int) (ht : t ≤ B) : ∀ (n : Nat) (σ : Sim), 0 ≤ σ.now → σ.now ≤ B → 0 ≤ (untilR t n σ).now ∧ (untilR t n σ).now ≤ B
  | 0, σ, h0, h1 => ⟨h0, h1⟩
  | n + 1, σ, h0, h1 => by
    rw [untilR]
    split
    · exact ⟨h0, h1⟩
    · rename_i hf
      have hd := scan_due σ.due t 14 (by omega)
      exact untilR_now t B ht n _ (by rw [fire_now]; omega) (by rw [fire_now]; omega)
theorem untilR_log (t : Int) : ∀ (n : Nat) (σ : Sim), σ.log.length ≤ (untilR t n σ).log.length ∧ (untilR t n σ).log.length ≤ σ.log.length + 3 * n
  | 0, σ => ⟨Nat.le_refl _, Nat.le_refl _⟩
  | n + 1, σ => by
    rw [untilR]
    split
    · omega
    · have h := untilR_log t n (fire σ (scan σ.due t 14).toNat)
      have h2 := fire_log σ (scan σ.due t 14).toNat
      omega
theorem untilS_now (σ : Sim) (t : Int) (h0 : 0 ≤ σ.now) (ht : σ.now ≤ t) : (untilS σ t).now = t := by
  have := untilR_now t t (Int.le_refl _) 200 σ h0 ht
  show max (untilR t 200 σ).now t = t
  omega
theorem untilS_log (σ : Sim) (t : Int) : σ.log.length ≤ (untilS σ t).log.length ∧ (untilS σ t).log.length ≤ σ.log.length + 600 := untilR_log t 200 σ
theorem startS_now : startS.now = 0 := takeS_now _ _ _
theorem startS_log : startS.log.length ≤ 3 := by unfold startS; rw [takeS_log]; have := startL_len; simpa using this

/-- The slice reads as these events. -/
def Evs (w : World) (A : Option Addr) (n : Nat) (l : List Ev) : Prop :=
  n = l.length ∧ (∀ e ∈ l, 0 ≤ e.wait ∧ e.wait ≤ 65535) ∧ (0 < n → ∃ b o, A = some ⟨b, o, none⟩ ∧ b < w.heap.size ∧ ∀ (j : Nat) (e : Ev), l[j]? = some e →
    w.cell? ⟨b, o + j * 3, none⟩ = some (.int .u16 e.wait) ∧ w.cell? ⟨b, o + j * 3 + 1, none⟩ = some (.int .u8 e.kind) ∧ w.cell? ⟨b, o + j * 3 + 2, none⟩ = some (.int .i64 e.code))

/-- The sim in block g, with the frame of the whole call. -/
structure At (w : World) (g : Nat) (σ : Sim) (wr : World) : Prop where
  ex : ∃ v, SimV wr g σ v ∧ ∀ k, v.ownBlock = some k → w.heap.size ≤ k
  lo : w.heap.size ≤ g
  bw : Below w.heap.size w wr
theorem At.take {w wr w2 : World} {g : Nat} {σ' : Sim} {v : Value} (hv : ∀ k, v.ownBlock = some k → w.heap.size ≤ k) (lo : w.heap.size ≤ g) (bw : Below w.heap.size w wr) (h : ∃ v', SimV w2 g σ' v' ∧ Mv wr w2 g v v') : At w g σ' w2 := by
  obtain ⟨v', h1, h2⟩ := h
  exact ⟨⟨v', h1, h2.lo hv bw.size⟩, lo, bw.trans (h2.toBelow lo hv bw.size)⟩
theorem At.drew {w wr : World} {g : Nat} {σ : Sim} (h : At w g σ wr) : At w g σ wr.drew := by
  obtain ⟨v, h1, h2⟩ := h.ex
  exact ⟨⟨v, h1.drew, h2⟩, h.lo, Below.drew h.bw⟩
theorem At.below {w wr w2 : World} {g : Nat} {σ : Sim} (h : At w g σ wr) (hb : Below wr.heap.size wr w2) : At w g σ w2 := by
  obtain ⟨v, h1, h2⟩ := h.ex
  exact ⟨⟨v, h1.below hb, h2⟩, h.lo, h.bw.trans (hb.mono h.bw.size)⟩

def PlayR (w : World) (l : List Ev) (s i : Value) (wr : World) : Prop :=
  ∃ j g : Nat, j ≤ l.length ∧ j ≤ 40 ∧ i = .int .i64 j ∧ s = .pointer (some ⟨g, 0, none⟩) ∧ At w g ((l.take j).foldl playOne startS) wr ∧ 0 ≤ ((l.take j).foldl playOne startS).now ∧ ((l.take j).foldl playOne startS).now ≤ 65535 * j ∧ ((l.take j).foldl playOne startS).log.length ≤ 3 + 603 * j

set_option maxRecDepth 100000 in
set_option maxHeartbeats 4000000 in
theorem play_any (A : Option Addr) (n c : Nat) (l : List Ev) (w : World) (hl : Evs w A n l) (hn : (n : Int) ≤ 9223372036854775807) :
    Calls Try.prog 11 #[.slice A n c] w (SimP w (playS l)) := by
  have HL := Lib.hid hl
  clear hl
  go_enter Try.func11, Try.ntmps11
  go_wp2_with fail
  refine (simstart_any _).mono ?_
  rintro e w1 ⟨g, v, rfl, hlo, hS, hv, hB⟩
  have A1 := Lib.hid (show At w g startS w1 from ⟨⟨v, hS, hv⟩, hlo, hB⟩)
  clear hS hv hB
  go_wp2_with fail
  go_loopw [4] (fun i wr => PlayR w l (.pointer (some ⟨g, 0, none⟩)) i wr) (fun i _ => 40 - (intOf i).toNat)
  case atStart => exact ⟨0, g, Nat.zero_le _, Nat.zero_le _, rfl, rfl, A1.out, by simp [startS_now], by simp [startS_now], by have := startS_log; simpa using this⟩
  case round =>
    clear A1 hlo
    obtain ⟨j, g', hj, hj40, rfl, hgg, hA, hn0, hn1, hlg⟩ := hrel
    injection hgg with hgg
    injection hgg with hgg
    injection hgg with hgg
    subst hgg
    have hnl := HL.out.1
    by_cases hlt : j < n ∧ j < 40
    · obtain ⟨hlt, hlt40⟩ := hlt
      obtain ⟨x, hx⟩ : ∃ x, l[j]? = some x := ⟨l[j]'(by omega), List.getElem?_eq_getElem (by omega)⟩
      obtain ⟨b, o, rfl, hb, hcb⟩ := HL.out.2.2 (by omega)
      obtain ⟨a0, a1, a2⟩ := hcb j x hx
      obtain ⟨x0, x1⟩ := HL.out.2.1 x (List.mem_of_getElem? hx)
      have hce : ∀ o, wr.cell? ⟨b, o, none⟩ = w.cell? ⟨b, o, none⟩ := fun o => hA.bw.cell (p := ⟨b, o, none⟩) hb
      rw [← hce] at a0 a1 a2
      have hbw : b < wr.heap.size := Nat.lt_of_lt_of_le hb hA.bw.size
      have hN : (l.take (j + 1)).foldl playOne startS = playOne ((l.take j).foldl playOne startS) x := by
        rw [List.take_add_one, hx, List.foldl_append]; rfl
      generalize (l.take j).foldl playOne startS = τ at *
      obtain ⟨v', hS, hv⟩ := hA.ex
      have c17 := hS.cnow
      have hgl := hS.lt
      have hU := until_any g τ v' (τ.now + x.wait) wr.drew hS.drew (by omega) hn0 (by omega) (by omega)
      have HU := Lib.hid hU; have HV := Lib.hid hv; have HA := Lib.hid hA; have HN := Lib.hid hN
      have u1 := untilS_now τ (τ.now + x.wait) hn0 (by omega)
      have u2 := untilS_log τ (τ.now + x.wait)
      have U1 := Lib.hid u1
      have hjl : j + 1 ≤ l.length := by omega
      clear hU hv hA hN hce hcb hx hS u1 hnl HL
      obtain ⟨xw, xk, xc⟩ := x
      simp only at a0 a1 a2 x0 x1
      have hji : (0 : Int) ≤ (j : Int) := Int.natCast_nonneg _
      have hjn : (j : Int) < (n : Int) := by omega
      have hj4 : (j : Int) < 40 := by omega
      go_wp2_with fail
      have hw : IntKind.i64.wrap (τ.now + xw) = τ.now + xw := IntWalk.i64_in _ (by omega)
      go_still_tail 12, (by kernel_rfl)
      clear hw
      change wpList _ _ _ _ _ wr.drew
      go_wp2_with fail
      refine HU.out.mono ?_
      rintro e w2 ⟨rfl, h1⟩
      have A2 := At.take HV.out HA.out.lo HA.out.drew.bw h1
      obtain ⟨v2, hS2, hv2⟩ := A2.ex
      have hbb : ∀ o, w2.cell? ⟨b, o, none⟩ = w.cell? ⟨b, o, none⟩ := fun o => A2.bw.cell (p := ⟨b, o, none⟩) hb
      have hbo : ∀ o, wr.cell? ⟨b, o, none⟩ = w.cell? ⟨b, o, none⟩ := fun o => HA.out.bw.cell (p := ⟨b, o, none⟩) hb
      rw [hbo, ← hbb] at a1 a2
      have hbw2 : b < w2.heap.size := Nat.lt_of_lt_of_le hb A2.bw.size
      have HG := Lib.hid (give_any g (untilS τ (τ.now + xw)) v2 xk xc 0 w2.drew hS2.drew (by omega) (by rw [U1.out]; omega) (by rw [U1.out]; omega))
      have HV2 := Lib.hid hv2; have HA2 := Lib.hid A2
      clear A2 hS2 hv2 hbb hbo a0 c17 hgl HU HV HA h1
      go_wp2_with fail
      go_still_tail 12, (by kernel_rfl)
      change wpList _ _ _ _ _ w2.drew
      go_wp2_with fail
      refine HG.out.mono ?_
      rintro e w3 ⟨rfl, h1⟩
      have A3 := At.take HV2.out HA2.out.lo HA2.out.drew.bw h1
      have FIN := Lib.hid (show PlayR w l (.pointer (some ⟨g, 0, none⟩)) (.int .i64 (j + 1 : Nat)) w3 from
        ⟨j + 1, g, hjl, by omega, rfl, rfl, by rw [HN.out]; exact A3, by
          rw [HN.out, playOne, giveS_now, U1.out]; omega, by
          rw [HN.out, playOne, giveS_now, U1.out]; omega, by
          rw [HN.out, playOne]
          have h := giveS_log (untilS τ (τ.now + xw)) ⟨xk, xc, 0⟩
          simp only at u2 ⊢
          omega⟩)
      clear A3 HG HV2 HA2 h1 a1 a2
      go_wp2_with fail
      go_roundw
      case rel => exact FIN.out
      case measure => simp [intOf]; omega
    · have hE : (l.take j).foldl playOne startS = playS l := by
        unfold playS
        by_cases h40 : j < 40
        · have : j = l.length := by omega
          rw [this, List.take_length, List.take_of_length_le (by omega)]
        · have : j = 40 := by omega
          rw [this]
      rw [hE] at hA
      obtain ⟨v', hS, hv⟩ := hA.ex
      have FIN := Lib.hid (show SimP w (playS l) (.returned (.pointer (some ⟨g, 0, none⟩))) wr from ⟨g, v', rfl, hA.lo, hS, hv, hA.bw⟩)
      clear hE hA hS hv hn0 hn1 hlg
      by_cases hlt : j < n
      · have h40 : ¬ j < 40 := by omega
        clear hnl HL
        go_wp2_with fail
        go_ret
        exact FIN.out
      · clear hnl HL
        go_wp2_with fail
        go_ret
        exact FIN.out
end Go.Proofs.Ytdooohanhekniaa
