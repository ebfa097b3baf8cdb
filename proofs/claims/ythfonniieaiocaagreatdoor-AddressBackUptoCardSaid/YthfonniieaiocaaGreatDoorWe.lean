/- Contracts: slices.Equal of parameters, address.Equal. The law AddressRound. -/
import Derived.Test.YthfonniieaiocaaGreatDoorYa
set_option linter.unusedVariables false
set_option linter.unusedSimpArgs false
namespace Go.Proofs.YthfonniieaiocaaGreatDoor
open Go.RowKit

theorem uarg_norm {w w' : World} {u n : Uri} {A1 A2 B1 B2 : Option Addr} (H : UArg w u A1 A2) (h : normL u = some n) (r1 : Rds w' w'.heap.size B1 (pms n.ps)) (r2 : Rds w' w'.heap.size B2 (pms n.hs)) : UArg w' n B1 B2 := by
  have hn := norm_ok H.by_ h
  obtain ⟨s1, s2, s3, s4⟩ := norm_sz H.by_ h H.n2 H.n3 H.s1 H.s2
  have hb := uriN_by hn
  have h1 : n.sc.length ≤ 4000000 := by
    rcases hn.k with h | h
    · rcases h.1 with h | h <;> rw [h] <;> decide
    · rw [h.1]; decide
  exact ⟨hb, h1, s1, s2, s3, s4, r1, r2, by have := hn.ps.len; omega, by have := hn.hs.len; omega⟩
theorem norm_good {u n : Uri} (h : normL u = some n) (A1 A2 : Option Addr) (c1 c2 : Nat) (w : World) (H : UArg w u A1 A2) (hG : GM w) (hP : PT w) :
    Calls Tryz.prog 33 #[uS u A1 A2 c1 c2] w fun e w' => ∃ B1 B2 d1 d2, e = .returned (.tuple #[uS n B1 B2 d1 d2, .int .u8 0]) ∧ Below w.heap.size w w' ∧ UArg w' n B1 B2 := by
  refine (normal_any u A1 A2 c1 c2 w H hG hP).mono ?_
  intro e w' hr
  rw [h] at hr
  obtain ⟨v1, v2, rfl, h1, h2⟩ := hr
  have hb := h1.bw
  obtain ⟨B1, d1, rfl, r1⟩ := h1.rdw
  obtain ⟨B2, d2, rfl, r2⟩ := h2.rdw
  exact ⟨B1, B2, d1, d2, rfl, hb, uarg_norm H h r1 r2⟩
end Go.Proofs.YthfonniieaiocaaGreatDoor
namespace Go.Proofs.YthfonniieaiocaaGreatDoor
open Go.RowKit

end Go.Proofs.YthfonniieaiocaaGreatDoor
