/- Same and outs say yes of slices that read as the same list. -/
import Derived.Test.YtdooohanhekniaaW
import Derived.Deep.QuietTactic
import Derived.BigQuiet
namespace Go.Proofs.Ytdooohanhekniaa
open Go.RowKit

theorem osC_get : ∀ (l : List Out) (j : Nat) (x : Out), l[j]? = some x → (osC l)[j * 4]? = some (.int .u8 x.kind) ∧ (osC l)[j * 4 + 1]? = some (.int .i64 x.code) ∧ (osC l)[j * 4 + 2]? = some (.int .u8 x.timer) ∧ (osC l)[j * 4 + 3]? = some (.int .i64 x.after)
  | [], j, x, h => by simp at h
  | y :: l, 0, x, h => by
    obtain rfl : y = x := by simpa using h
    exact ⟨rfl, rfl, rfl, rfl⟩
  | y :: l, j + 1, x, h => by
    have ih := osC_get l j x (by simpa using h)
    have e : ∀ f, (osC (y :: l))[(j + 1) * 4 + f]? = (osC l)[j * 4 + f]? := fun f => by
      show (oC y ++ osC l)[(j + 1) * 4 + f]? = _
      rw [List.getElem?_append_right (by simp [oC]; omega)]
      congr 1
      simp [oC]; omega
    exact ⟨(e 0).trans ih.1, (e 1).trans ih.2.1, (e 2).trans ih.2.2.1, (e 3).trans ih.2.2.2⟩

/-- The cells of element j. -/
theorem Outs.at_ {w : World} {lo : Nat} {v : Value} {l : List Out} (h : Outs w lo v l) {A : Option Addr} {n c : Nat} (hv : v = .slice A n c) : n = l.length ∧ (0 < n → ∃ b o, A = some ⟨b, o, none⟩ ∧ b < w.heap.size ∧ ∀ (j : Nat) (x : Out), l[j]? = some x →
    w.cell? ⟨b, o + j * 4, none⟩ = some (.int .u8 x.kind) ∧ w.cell? ⟨b, o + j * 4 + 1, none⟩ = some (.int .i64 x.code) ∧ w.cell? ⟨b, o + j * 4 + 2, none⟩ = some (.int .u8 x.timer) ∧ w.cell? ⟨b, o + j * 4 + 3, none⟩ = some (.int .i64 x.after)) := by
  obtain ⟨h1, A', c', hv', hc, h2⟩ := h
  rw [hv'] at hv
  injection hv with e1 e2 e3
  subst e1 e2 e3
  refine ⟨rfl, fun hn => ?_⟩
  obtain ⟨b, o, hA, _, hlt, hcell⟩ := h2 hn
  refine ⟨b, o, hA, hlt, fun j x hx => ?_⟩
  obtain ⟨g0, g1, g2, g3⟩ := osC_get l j x hx
  exact ⟨hcell _ _ g0, by rw [Nat.add_assoc]; exact hcell _ _ g1, by rw [Nat.add_assoc]; exact hcell _ _ g2, by rw [Nat.add_assoc]; exact hcell _ _ g3⟩

def TrueBelow (w : World) (e : Ending) (w' : World) : Prop := e = .returned (.bool true) ∧ Below w.heap.size w w'
def SameRel (w : World) (n : Nat) (i : Value) (wr : World) : Prop := ∃ j : Nat, j ≤ n ∧ i = .int .i64 j ∧ ∃ q, wr = w.drewN q


set_option maxHeartbeats 1000000 in
theorem same_eq (v u : Value) (l : List Out) (lo lo' : Nat) (w : World) (hv : Outs w lo v l) (hu : Outs w lo' u l) (hl : l.length ≤ 4) : Calls Try.prog 18 #[v, u] w (TrueBelow w) := by
  obtain ⟨A, c, rfl⟩ : ∃ A c, v = .slice A l.length c := by obtain ⟨_, A, c, h, _⟩ := hv; exact ⟨A, c, h⟩
  obtain ⟨B, d, rfl⟩ : ∃ B d, u = .slice B l.length d := by obtain ⟨_, A, c, h, _⟩ := hu; exact ⟨A, c, h⟩
  have HV := Lib.hid (hv.at_ rfl); have HU := Lib.hid (hu.at_ rfl)
  clear hv hu
  obtain ⟨n, hn⟩ : ∃ n, n = l.length := ⟨_, rfl⟩
  have HN := Lib.hid hn
  rw [← hn] at hl ⊢
  clear hn
  go_enter Try.func18, Try.ntmps18
  go_wp2
  go_loopw [5] (fun i wr => SameRel w n i wr) (fun i _ => n - (intOf i).toNat)
  case atStart => exact ⟨0, Nat.zero_le _, rfl, 0, rfl⟩
  case round =>
    obtain ⟨j, hj, rfl, q, rfl⟩ := hrel
    by_cases hlt : j < n
    · have hn := HN.out
      obtain ⟨x, hx⟩ : ∃ x, l[j]? = some x := ⟨l[j]'(by omega), List.getElem?_eq_getElem (by omega)⟩
      obtain ⟨b, o, rfl, hb, hcb⟩ := HV.out.2 (by omega)
      obtain ⟨g, p, rfl, hg, hcg⟩ := HU.out.2 (by omega)
      obtain ⟨a0, a1, a2, a3⟩ := hcb j x hx
      obtain ⟨b0, b1, b2, b3⟩ := hcg j x hx
      clear hn hcb hcg hx
      go_wp2_with fail
      go_quiet (fail)
      go_wp2_with fail
      go_roundw
      case rel => exact ⟨j + 1, by omega, by go_num, q + nq, rfl⟩
      case measure => simp [intOf]; omega
    · obtain rfl : j = n := by omega
      go_wp2
      go_ret
      exact ⟨rfl, ⟨rfl, rfl, rfl, Nat.le_refl _, fun _ _ => rfl⟩⟩


set_option maxHeartbeats 1000000 in
theorem outs_eq (v u : Value) (l : List Out) (lo lo' : Nat) (w : World) (hv : Outs w lo v l) (hu : Outs w lo' u l) (hl : l.length ≤ 4) : Calls Try.prog 25 #[v, u] w (TrueBelow w) := by
  obtain ⟨A, c, rfl⟩ : ∃ A c, v = .slice A l.length c := by obtain ⟨_, A, c, h, _⟩ := hv; exact ⟨A, c, h⟩
  obtain ⟨B, d, rfl⟩ : ∃ B d, u = .slice B l.length d := by obtain ⟨_, A, c, h, _⟩ := hu; exact ⟨A, c, h⟩
  have HV := Lib.hid (hv.at_ rfl); have HU := Lib.hid (hu.at_ rfl)
  clear hv hu
  obtain ⟨n, hn⟩ : ∃ n, n = l.length := ⟨_, rfl⟩
  have HN := Lib.hid hn
  rw [← hn] at hl ⊢
  clear hn
  go_enter Try.func25, Try.ntmps25
  go_wp2
  go_loopw [5] (fun i wr => SameRel w n i wr) (fun i _ => n - (intOf i).toNat)
  case atStart => exact ⟨0, Nat.zero_le _, rfl, 0, rfl⟩
  case round =>
    obtain ⟨j, hj, rfl, q, rfl⟩ := hrel
    by_cases hlt : j < n
    · have hn := HN.out
      obtain ⟨x, hx⟩ : ∃ x, l[j]? = some x := ⟨l[j]'(by omega), List.getElem?_eq_getElem (by omega)⟩
      obtain ⟨b, o, rfl, hb, hcb⟩ := HV.out.2 (by omega)
      obtain ⟨g, p, rfl, hg, hcg⟩ := HU.out.2 (by omega)
      obtain ⟨a0, a1, a2, a3⟩ := hcb j x hx
      obtain ⟨b0, b1, b2, b3⟩ := hcg j x hx
      clear hn hcb hcg hx
      go_wp2_with fail
      go_quiet (fail)
      go_wp2_with fail
      go_roundw
      case rel => exact ⟨j + 1, by omega, by go_num, q + nq, rfl⟩
      case measure => simp [intOf]; omega
    · obtain rfl : j = n := by omega
      go_wp2
      go_ret
      exact ⟨rfl, ⟨rfl, rfl, rfl, Nat.le_refl _, fun _ _ => rfl⟩⟩

end Go.Proofs.Ytdooohanhekniaa
