/- Contracts: slices.Equal of parameters, address.Equal. And what stands behind it. -/
import Derived.Test.YthfonniieaiocaaGreatDoorYa
set_option linter.unusedVariables false
set_option linter.unusedSimpArgs false
namespace Go.Proofs.YthfonniieaiocaaGreatDoor
open Go.RowKit

theorem uarg_norm {w w' : World} {u n : Uri} {A1 A2 B1 B2 : Option Addr} (H : UArg w u A1 A2) (h : normL u = some n) (r1 : Rds w' w'.heap.size B1 (pms n.ps)) (r2 : Rds w' w'.heap.size B2 (pms n.hs)) : UArg w' n B1 B2 := by
  have hn := norm_ok H.by_ h
  obtain ⟨s1, s2, s3, s4⟩ := norm_sz H.by_ h H.n2 H.n3 H.s1 H.s2
  have hb := uriN_by hn
  have h1 : n.sc.length ≤ 4000000 := by
    rcases hn.k with h | h
    · rcases h.1 with h | h <;> rw [h] <;> decide
    · rw [h.1]; decide
  exact ⟨hb, h1, s1, s2, s3, s4, r1, r2, by have := hn.ps.len; omega, by have := hn.hs.len; omega⟩

end Go.Proofs.YthfonniieaiocaaGreatDoor
