/- The contract of the simulated machine's until. -/
import Derived.Test.YtdooohanhekniaaSc
namespace Go.Proofs.Ytdooohanhekniaa
open Go.RowKit

def scan (d : List Int) (t : Int) : Nat → Int
  | 0 => -1
  | i + 1 => if 0 ≤ d.getD i 0 ∧ d.getD i 0 ≤ t ∧ (scan d t i < 0 ∨ d.getD i 0 < d.getD (scan d t i).toNat 0) then i else scan d t i
theorem scan_range (d : List Int) (t : Int) : ∀ i, -1 ≤ scan d t i ∧ scan d t i < i
  | 0 => by simp [scan]
  | i + 1 => by
    have := scan_range d t i
    unfold scan
    split <;> omega
theorem scan_due (d : List Int) (t : Int) : ∀ i, 0 ≤ scan d t i → 0 ≤ d.getD (scan d t i).toNat 0 ∧ d.getD (scan d t i).toNat 0 ≤ t
  | 0, h => by simp [scan] at h
  | i + 1, h => by
    unfold scan at h ⊢
    by_cases hc : 0 ≤ d.getD i 0 ∧ d.getD i 0 ≤ t ∧ (scan d t i < 0 ∨ d.getD i 0 < d.getD (scan d t i).toNat 0)
    · rw [if_pos hc]; exact ⟨by simpa using hc.1, by simpa using hc.2.1⟩
    · rw [if_neg hc] at h ⊢; exact scan_due d t i h

/-- The timer f fires. -/
def fire (σ : Sim) (f : Nat) : Sim := giveS { σ with now := σ.due.getD f 0, due := σ.due.set f (-1) } ⟨5, 0, f⟩
def untilR (t : Int) : Nat → Sim → Sim
  | 0, σ => σ
  | n + 1, σ => if scan σ.due t 14 < 0 then σ else untilR t n (fire σ (scan σ.due t 14).toNat)
def untilS (σ : Sim) (t : Int) : Sim := { untilR t 200 σ with now := max (untilR t 200 σ).now t }

theorem giveS_now (σ : Sim) (i : Inp) : (giveS σ i).now = σ.now := takeS_now _ _ _
theorem giveS_log (σ : Sim) (i : Inp) : σ.log.length ≤ (giveS σ i).log.length ∧ (giveS σ i).log.length ≤ σ.log.length + 3 := by
  unfold giveS; rw [takeS_log]; have := stepS_len σ.m i; omega
theorem fire_now (σ : Sim) (f : Nat) : (fire σ f).now = σ.due.getD f 0 := giveS_now _ _
theorem fire_log (σ : Sim) (f : Nat) : σ.log.length ≤ (fire σ f).log.length ∧ (fire σ f).log.length ≤ σ.log.length + 3 := by
  have := giveS_log { σ with now := σ.due.getD f 0, due := σ.due.set f (-1) } ⟨5, 0, f⟩
  exact this

def UntR (w : World) (g : Nat) (v : Value) (σ : Sim) (t : Int) (i : Value) (wr : World) : Prop :=
  ∃ k : Nat, k ≤ 200 ∧ i = .int .i64 k ∧ ∃ τ v', SimV wr g τ v' ∧ Mv w wr g v v' ∧ untilR t (200 - k) τ = untilR t 200 σ ∧ τ.log.length ≤ σ.log.length + 3 * k ∧ 0 ≤ τ.now ∧ τ.now ≤ 1000000000
def ScanR (wo : World) (d : List Int) (t : Int) (f i : Value) (wr : World) : Prop :=
  ∃ j : Nat, j ≤ 14 ∧ i = .int .i64 j ∧ f = .int .i64 (scan d t j) ∧ ∃ q, wr = wo.drewN q
theorem ScanR.next {wo wr : World} {d : List Int} {t : Int} {j : Nat} {f : Int} (hj : j < 14) (hf : f = scan d t (j + 1)) (hw : ∃ q, wr = wo.drewN q) : ScanR wo d t (.int .i64 f) (.int .i64 (j + 1 : Nat)) wr :=
  ⟨j + 1, by omega, rfl, by rw [hf], hw⟩

set_option maxRecDepth 100000 in
set_option maxHeartbeats 4000000 in
theorem until_any (g : Nat) (σ : Sim) (v : Value) (t : Int) (w : World) (hs : SimV w g σ v) (hlog : σ.log.length ≤ 99000) (hn0 : 0 ≤ σ.now) (hn1 : σ.now ≤ 1000000000) (ht1 : t ≤ 1000000000) :
    Calls Try.prog 12 #[.pointer (some ⟨g, 0, none⟩), .int .i64 t] w (TakeP w g v (untilS σ t)) := by
  have HS := Lib.hid hs
  clear hs
  go_enter Try.func12, Try.ntmps12
  go_wp2
  go_loopw [4] (fun i wr => UntR w g v σ t i wr) (fun i _ => 200 - (intOf i).toNat)
  case atStart => exact ⟨0, Nat.zero_le _, rfl, σ, v, HS.out, Mv.refl _ _ _, rfl, by omega, hn0, hn1⟩
  case round =>
    clear HS
    obtain ⟨k, hk, rfl, τ, v', hS, hM, hU, hL, t0, t1⟩ := hrel
    have SV := Lib.hid hS; have MV := Lib.hid hM; have UV := Lib.hid hU
    clear hS hM hU
    by_cases hlt : k < 200
    · have hd : decide ((k : Int) < 200) = true := by simp; omega
      go_wp2_with fail
      obtain ⟨wo, rfl⟩ : ∃ wo : World, wo = wr := ⟨_, rfl⟩
      go_loopw [5, 6] (fun f i wr => ScanR wo τ.due t f i wr) (fun _ i _ => 14 - (intOf i).toNat)
      case atStart => exact ⟨0, Nat.zero_le _, rfl, rfl, 0, rfl⟩
      case round =>
        obtain ⟨j, hj, rfl, rfl, q, rfl⟩ := hrel
        obtain ⟨f0, f1⟩ := scan_range τ.due t j
        by_cases hj14 : j < 14
        · have hdl := SV.out.len
          obtain ⟨x, hx⟩ : ∃ x, τ.due[j]? = some x := ⟨τ.due[j]'(by omega), List.getElem?_eq_getElem _⟩
          have hgx : τ.due.getD j 0 = x := by rw [List.getD_eq_getElem?_getD, hx]; rfl
          have cj : wo.cell? ⟨g, 3 + j, none⟩ = some (.int .i64 x) := SV.out.cdue hx
          have hN : scan τ.due t (j + 1) = if 0 ≤ x ∧ x ≤ t ∧ (scan τ.due t j < 0 ∨ x < τ.due.getD (scan τ.due t j).toNat 0) then (j : Int) else scan τ.due t j := by
            rw [scan, hgx]
          have hji : (0 : Int) ≤ (j : Int) := Int.natCast_nonneg _
          have hjn : (j : Int) < 14 := by omega
          have hgl := SV.out.lt
          generalize hf : scan τ.due t j = f at *
          clear hf hgx hx
          by_cases hA : 0 ≤ x ∧ x ≤ t
          · obtain ⟨hA0, hA1⟩ := hA
            by_cases hf : f < 0
            · have FIN := fun q' => Lib.hid (ScanR.next (wo := wo) (wr := wo.drewN q') hj14 (show (j : Int) = scan τ.due t (j + 1) by rw [hN, if_pos ⟨hA0, hA1, .inl hf⟩]) ⟨q', rfl⟩)
              have d0 : decide (0 ≤ x) = true := by simpa using hA0
              have d1 : decide (x ≤ t) = true := by simpa using hA1
              have d2 : decide (f < 0) = true := by simpa using hf
              have FH := Lib.hid FIN
              clear hN hdl FIN
              go_wp2_with fail
              go_quiet (fail)
              go_wp2_with fail
              go_roundw
              case rel => exact (FH.out _).out
              case measure => simp [intOf]; omega
            · obtain ⟨fn, rfl⟩ := Int.eq_ofNat_of_zero_le (show 0 ≤ f by omega)
              obtain ⟨y, hy⟩ : ∃ y, τ.due[fn]? = some y := ⟨τ.due[fn]'(by omega), List.getElem?_eq_getElem _⟩
              have hgy : τ.due.getD ((fn : Int)).toNat 0 = y := by rw [Int.toNat_natCast, List.getD_eq_getElem?_getD, hy]; rfl
              have cf : wo.cell? ⟨g, 3 + fn, none⟩ = some (.int .i64 y) := SV.out.cdue hy
              have hfi : (0 : Int) ≤ (fn : Int) := Int.natCast_nonneg _
              have hfn : (fn : Int) < 14 := by omega
              rw [hgy] at hN
              have d0 : decide (0 ≤ x) = true := by simpa using hA0
              have d1 : decide (x ≤ t) = true := by simpa using hA1
              have d2 : decide ((fn : Int) < 0) = false := by simp
              by_cases hxy : x < y
              · have FIN := fun q' => Lib.hid (ScanR.next (wo := wo) (wr := wo.drewN q') hj14 (show (j : Int) = scan τ.due t (j + 1) by rw [hN, if_pos ⟨hA0, hA1, .inr hxy⟩]) ⟨q', rfl⟩)
                have d3 : decide (x < y) = true := by simpa using hxy
                have FH := Lib.hid FIN
                clear hN hdl FIN hy hgy
                go_wp2_with fail
                go_quiet (fail)
                go_wp2_with fail
                go_roundw
                case rel => exact (FH.out _).out
                case measure => simp [intOf]; omega
              · have FIN := fun q' => Lib.hid (ScanR.next (wo := wo) (wr := wo.drewN q') hj14 (show (fn : Int) = scan τ.due t (j + 1) by rw [hN, if_neg (by omega)]) ⟨q', rfl⟩)
                have d3 : decide (x < y) = false := by simpa using hxy
                have FH := Lib.hid FIN
                clear hN hdl FIN hy hgy
                go_wp2_with fail
                go_quiet (fail)
                go_wp2_with fail
                go_roundw
                case rel => exact (FH.out _).out
                case measure => simp [intOf]; omega
          · have FIN := fun q' => Lib.hid (ScanR.next (wo := wo) (wr := wo.drewN q') hj14 (show f = scan τ.due t (j + 1) by rw [hN, if_neg (by omega)]) ⟨q', rfl⟩)
            have FH := Lib.hid FIN
            by_cases hA0 : 0 ≤ x
            · have d0 : decide (0 ≤ x) = true := by simpa using hA0
              have d1 : decide (x ≤ t) = false := by simp; omega
              clear hN hdl FIN hA
              go_wp2_with fail
              go_quiet (fail)
              go_wp2_with fail
              go_roundw
              case rel => exact (FH.out _).out
              case measure => simp [intOf]; omega
            · have d0 : decide (0 ≤ x) = false := by simpa using hA0
              clear hN hdl FIN hA
              go_wp2_with fail
              go_quiet (fail)
              go_wp2_with fail
              go_roundw
              case rel => exact (FH.out _).out
              case measure => simp [intOf]; omega
        · obtain rfl : j = 14 := by omega
          obtain ⟨n, hn⟩ : ∃ n, 200 - k = n + 1 := ⟨199 - k, by omega⟩
          have hU := UV.out
          rw [hn, untilR] at hU
          have hsd := scan_due τ.due t 14
          generalize hf : scan τ.due t 14 = f at *
          have hgl := SV.out.lt
          have f17 := SV.out.frozen 17
          have c17 := SV.out.cnow
          have hdl := SV.out.len
          by_cases hf0 : f < 0
          · rw [if_pos hf0] at hU
            have FIN := Lib.hid (fun z (hz : z = max τ.now t) => show TakeP w g v (untilS σ t) (.returned (.tuple #[])) ((wo.drewN q).setCell ⟨g, 17, none⟩ (.int .i64 z)) from
              ⟨rfl, v', by
                have h := (SV.out.drewN q).setNow z
                rw [hz] at h ⊢
                unfold untilS; rw [← hU]; exact h, ((MV.out.drewN q).setCell 17 _)⟩)
            clear hU hsd hf hdl hn UV
            by_cases hx : τ.now < t
            · go_wp2_with fail
              go_end0
              exact FIN.out _ (by omega)
            · go_wp2_with fail
              go_end0
              exact FIN.out _ (by omega)
          · rw [if_neg hf0] at hU
            obtain ⟨fn, rfl⟩ := Int.eq_ofNat_of_zero_le (show 0 ≤ f by omega)
            obtain ⟨y, hy⟩ : ∃ y, τ.due[fn]? = some y := ⟨τ.due[fn]'(by omega), List.getElem?_eq_getElem _⟩
            have hgy : τ.due.getD fn 0 = y := by rw [List.getD_eq_getElem?_getD, hy]; rfl
            rw [Int.toNat_natCast] at hU hsd
            have hyr := hsd (by omega)
            rw [hgy] at hyr
            obtain ⟨y0, y1⟩ := hyr
            have cf : wo.cell? ⟨g, 3 + fn, none⟩ = some (.int .i64 y) := SV.out.cdue hy
            have ff := SV.out.frozen (3 + fn)
            have hfi : (0 : Int) ≤ (fn : Int) := Int.natCast_nonneg _
            have hfn : (fn : Int) < 14 := by omega
            have hne : ¬ (3 + fn = 17) := by omega
            have hne' : ¬ (17 = 3 + fn) := by omega
            have hFn := fire_now τ fn
            have hFl := fire_log τ fn
            rw [hgy] at hFn
            have S2 : SimV (((wo.drewN q).setCell ⟨g, 17, none⟩ (.int .i64 y)).setCell ⟨g, 3 + fn, none⟩ (.int .i64 (-1))) g { τ with now := y, due := τ.due.set fn (-1) } v' := ((SV.out.drewN q).setNow y).setDue fn (by omega) (-1)
            have M2 := ((MV.out.drewN q).setCell 17 (.int .i64 y)).setCell (3 + fn) (.int .i64 (-1))
            have G2 := give_any g { τ with now := y, due := τ.due.set fn (-1) } v' 5 0 fn _ S2 (by simp only; omega) (by simpa using y0) (by simp only; omega)
            have hfe : giveS { τ with now := y, due := τ.due.set fn (-1) } ⟨5, 0, fn⟩ = fire τ fn := by unfold fire; rw [hgy]
            rw [hfe] at G2
            have HG := Lib.hid G2; have HM := Lib.hid M2; have HU := Lib.hid hU; have HFn := Lib.hid hFn; have HN := Lib.hid hn
            clear S2 M2 G2 hfe hU hsd hf hdl hn hFn hy hgy UV
            go_wp2_with fail
            refine HG.out.mono ?_
            rintro e w2 ⟨rfl, v2, h1, h2⟩
            have FIN := Lib.hid (show UntR w g v σ t (.int .i64 (k + 1 : Nat)) w2 from
              ⟨k + 1, by omega, rfl, fire τ fn, v2, h1, HM.out.trans h2, by
                have hn := HN.out
                rw [← HU.out, show 200 - (k + 1) = n by omega], by omega, by rw [HFn.out]; omega, by rw [HFn.out]; omega⟩)
            clear h1 h2 HG HM HU HFn hFl HN
            go_wp2_with fail
            go_roundw
            case rel => exact FIN.out
            case measure => simp [intOf]; omega
    · obtain rfl : k = 200 := by omega
      have hU := UV.out
      rw [Nat.sub_self, show untilR t 0 τ = τ from rfl] at hU
      have hgl := SV.out.lt
      have f17 := SV.out.frozen 17
      have c17 := SV.out.cnow
      have FIN := Lib.hid (fun z (hz : z = max τ.now t) => show TakeP w g v (untilS σ t) (.returned (.tuple #[])) (wr.setCell ⟨g, 17, none⟩ (.int .i64 z)) from
        ⟨rfl, v', by
          have h := SV.out.setNow z
          rw [hz] at h ⊢
          unfold untilS; rw [← hU]; exact h, (MV.out.setCell 17 _)⟩)
      clear hU UV
      by_cases hx : τ.now < t
      · go_wp2_with fail
        go_end0
        exact FIN.out _ (by omega)
      · go_wp2_with fail
        go_end0
        exact FIN.out _ (by omega)
end Go.Proofs.Ytdooohanhekniaa
