/- Plain words: what credentials print as. -/
import Derived.Test.YtfhbpgickkibmaaDoorPi
namespace Go.Proofs.YtfhbpgickkibmaaDoor
open Go.RowKit

def hex8 (k : Int) : List Int := [hexC (k / 268435456 % 16), hexC (k / 16777216 % 16), hexC (k / 1048576 % 16), hexC (k / 65536 % 16), hexC (k / 4096 % 16), hexC (k / 256 % 16), hexC (k / 16 % 16), hexC (k % 16)]
theorem hex8_eq (k : Int) (h0 : 0 ≤ k) (h1 : k ≤ 4294967295) : hexL [k / 16777216 % 256, k / 65536 % 256, k / 256 % 256, k % 256] = hex8 k := by
  unfold hex8 hexL
  simp only [List.flatMap_cons, List.flatMap_nil, hexP, List.append_nil, List.cons_append, List.nil_append]
  rw [show k / 16777216 % 256 / 16 = k / 268435456 % 16 by omega, show k / 16777216 % 256 % 16 = k / 16777216 % 16 by omega, show k / 65536 % 256 / 16 = k / 1048576 % 16 by omega, show k / 65536 % 256 % 16 = k / 65536 % 16 by omega,
    show k / 256 % 256 / 16 = k / 4096 % 16 by omega, show k / 256 % 256 % 16 = k / 256 % 16 by omega, show k % 256 / 16 = k / 16 % 16 by omega, show k % 256 % 16 = k % 16 by omega]
def QOPE : List Int := [113, 111, 112, 61]
def NCE : List Int := [110, 99, 61]
def partsCr (c : Cr) : List (List Int) := [nq USER c.u, nq REALM c.r, nq NONCE c.n, nq URI c.i, nq RESP c.p, ALGP, nq CNONCE c.c, QOPE ++ (if c.g = true then AUTHI else AUTH), NCE ++ hex8 c.k] ++ (if c.o = [] then [] else [nq OPAQUE c.o])
def cleanCr (c : Cr) : Bool := clean c.u && (clean c.r && (clean c.n && (clean c.i && (clean c.p && (clean c.c && clean c.o)))))
def printCr (c : Cr) : Option (List (List Int)) := if c.k < 0 ∨ 4294967295 < c.k then none else if cleanCr c = true then some (partsCr c) else none
/-- The writer's way. -/
def writeCr (c : Cr) : Option (List (List Int)) :=
  let L1 := addT (addT (addT (addT (addT (some []) USER c.u) REALM c.r) NONCE c.n) URI c.i) RESP c.p
  let L2 := addP (addP (addT (addP L1 ALGP) CNONCE c.c) (QOPE ++ (if c.g = true then AUTHI else AUTH))) (NCE ++ hex8 c.k)
  if c.o = [] then L2 else addT L2 OPAQUE c.o
theorem writeCr_eq (c : Cr) (h : ¬ (c.k < 0 ∨ 4294967295 < c.k)) : writeCr c = printCr c := by
  unfold printCr
  rw [if_neg h]
  unfold writeCr partsCr cleanCr
  dsimp only
  cases hu : clean c.u with
  | false => rw [addT_no hu]; simp only [addT_none, addP_none, ite_self, Bool.false_and, Bool.false_eq_true, if_false]
  | true =>
    rw [addT_yes hu]
    cases hr : clean c.r with
    | false => rw [addT_no hr]; simp only [addT_none, addP_none, ite_self, Bool.false_and, Bool.true_and, Bool.false_eq_true, if_false]
    | true =>
      rw [addT_yes hr]
      cases hn : clean c.n with
      | false => rw [addT_no hn]; simp only [addT_none, addP_none, ite_self, Bool.false_and, Bool.true_and, Bool.false_eq_true, if_false]
      | true =>
        rw [addT_yes hn]
        cases hi : clean c.i with
        | false => rw [addT_no hi]; simp only [addT_none, addP_none, ite_self, Bool.false_and, Bool.true_and, Bool.false_eq_true, if_false]
        | true =>
          rw [addT_yes hi]
          cases hp : clean c.p with
          | false => rw [addT_no hp]; simp only [addT_none, addP_none, ite_self, Bool.false_and, Bool.true_and, Bool.false_eq_true, if_false]
          | true =>
            rw [addT_yes hp]
            unfold addP
            rw [Option.map_some]
            cases hc : clean c.c with
            | false => rw [addT_no hc]; simp only [addT_none, Option.map_none, ite_self, Bool.false_and, Bool.true_and, Bool.false_eq_true, if_false]
            | true =>
              rw [addT_yes hc, Option.map_some, Option.map_some]
              by_cases ho : c.o = []
              · have hc0 : clean c.o = true := by rw [ho]; rfl
                rw [hc0, if_pos ho]
                simp [if_pos ho]
              · rw [if_neg ho]
                cases hc0 : clean c.o with
                | false => rw [addT_no hc0]; simp
                | true => rw [addT_yes hc0]; simp [if_neg ho]
def hexN (xs : List Int) : Int := xs.foldl (fun n c => 16 * n + digV c) 0
def countR (xs : List Int) : Int := if xs.length = 8 ∧ xs.all digOk = true then hexN xs else -1
theorem hexN_snoc (xs : List Int) (c : Int) : hexN (xs ++ [c]) = 16 * hexN xs + digV c := by unfold hexN; rw [List.foldl_append]; rfl
theorem hexN_take (xs : List Int) : ∀ k : Nat, k ≤ xs.length → 0 ≤ hexN (xs.take k) ∧ hexN (xs.take k) < 16 ^ k
  | 0, _ => by rw [List.take_zero]; exact ⟨Int.le_refl 0, by decide⟩
  | k + 1, hk => by
    obtain ⟨h1, h2⟩ := hexN_take xs k (by omega)
    have h3 := digV_range (xs.getD k 0)
    rw [take_snocI xs (by omega), hexN_snoc, Int.pow_succ]
    omega
theorem eight8 {α : Type} {l : List α} (h : l.length = 8) : ∃ a b c d e f g i, l = [a, b, c, d, e, f, g, i] := by
  match l, h with
  | [a, b, c, d, e, f, g, i], _ => exact ⟨a, b, c, d, e, f, g, i, rfl⟩
theorem count_num {xs : List Int} (h : xs.length = 8) : hexN xs = numL (unL xs 4) := by
  obtain ⟨a, b, c, d, e, f, g, i, rfl⟩ := eight8 h
  show 16 * (16 * (16 * (16 * (16 * (16 * (16 * (16 * 0 + digV a) + digV b) + digV c) + digV d) + digV e) + digV f) + digV g) + digV i = (((0 * 256 + (digV a * 16 + digV b)) * 256 + (digV c * 16 + digV d)) * 256 + (digV e * 16 + digV f)) * 256 + (digV g * 16 + digV i)
  omega
theorem count_bad {xs : List Int} (h : goodU xs = false ∨ xs.length / 2 ≠ 4) : countR xs = -1 := by
  unfold countR
  rw [if_neg]
  rintro ⟨h1, h2⟩
  rcases h with h | h
  · unfold goodU at h
    rw [h1, h2] at h
    cases h
  · omega
theorem count_good {xs : List Int} (h : ¬ (goodU xs = false ∨ xs.length / 2 ≠ 4)) : countR xs = numL (unL xs 4) ∧ 0 ≤ countR xs := by
  have hg : goodU xs = true := by
    cases hg : goodU xs with
    | true => rfl
    | false => exact absurd (.inl hg) h
  have h4 : xs.length / 2 = 4 := by
    rcases Nat.decEq (xs.length / 2) 4 with h4 | h4
    · exact absurd (.inr h4) h
    · exact h4
  unfold goodU at hg
  rw [Bool.and_eq_true, decide_eq_true_eq] at hg
  have h8 : xs.length = 8 := by omega
  unfold countR
  rw [if_pos ⟨h8, hg.2⟩]
  refine ⟨count_num h8, ?_⟩
  have h1 := (hexN_take xs 8 (by omega)).1
  rwa [List.take_of_length_le (by omega)] at h1
theorem all_drop {xs : List Int} {k : Nat} (h : digOk (xs.getD k 0) = false) (hk : k < xs.length) : xs.all digOk = false := by
  rw [List.all_eq_false]
  exact ⟨_, getD_mem hk, by rw [h]; decide⟩
/-- The eight digits, built from the last one. -/
def digB (k : Int) : Nat → List Int
  | 0 => []
  | n + 1 => hexC (k / 16 ^ n % 16) :: digB k n
theorem digB_8 (k : Int) : digB k 8 = hex8 k := by
  unfold hex8
  simp only [digB]
  rw [show (16 : Int) ^ 7 = 268435456 by decide, show (16 : Int) ^ 6 = 16777216 by decide, show (16 : Int) ^ 5 = 1048576 by decide, show (16 : Int) ^ 4 = 65536 by decide, show (16 : Int) ^ 3 = 4096 by decide, show (16 : Int) ^ 2 = 256 by decide, show (16 : Int) ^ 1 = 16 by decide, show (16 : Int) ^ 0 = 1 by decide, Int.ediv_one]
end Go.Proofs.YtfhbpgickkibmaaDoor
