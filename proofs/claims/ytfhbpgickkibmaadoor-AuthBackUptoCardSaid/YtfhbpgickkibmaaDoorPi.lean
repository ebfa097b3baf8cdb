/- Plain words: what credentials say. -/
import Derived.Test.YtfhbpgickkibmaaDoorPh
import Derived.Test.YtfhbpgickkibmaaDoorHb
namespace Go.Proofs.YtfhbpgickkibmaaDoor
open Go.RowKit

structure Cr where
  u : List Int
  r : List Int
  n : List Int
  i : List Int
  p : List Int
  c : List Int
  o : List Int
  k : Int
  g : Bool
def USER : List Int := [117, 115, 101, 114, 110, 97, 109, 101]
def URI : List Int := [117, 114, 105]
def RESP : List Int := [114, 101, 115, 112, 111, 110, 115, 101]
def CNONCE : List Int := [99, 110, 111, 110, 99, 101]
def NC : List Int := [110, 99]
def NMS : List (List Int) := [USER, REALM, NONCE, URI, RESP, CNONCE, NC]
def missing (l : List (List Int × List Int)) : Bool := NMS.any fun m => !(getF l m).isSome
def numL (bs : List Int) : Int := bs.foldl (fun a b => a * 256 + b) 0
def parseCr (xs : List Int) : Except Int Cr := match fieldsL xs with
  | .error k => .error k
  | .ok l => if missing l = true then .error 8
    else if lowS (gotF l ALG) ≠ SHA then .error 15
    else if gotF l QOP ≠ AUTHI ∧ gotF l QOP ≠ AUTH then .error 15
    else if goodU (gotF l NC) = false ∨ (gotF l NC).length / 2 ≠ 4 then .error 5
    else .ok ⟨gotF l USER, gotF l REALM, gotF l NONCE, gotF l URI, gotF l RESP, gotF l CNONCE, gotF l OPAQUE, numL (unL (gotF l NC) 4), gotF l QOP == AUTHI⟩
def crC (c : Cr) : List Value := [.string (strOfNums c.u), .string (strOfNums c.r), .string (strOfNums c.n), .string (strOfNums c.i), .string (strOfNums c.p), .string (strOfNums c.c), .string (strOfNums c.o), .int .i64 c.k, .bool c.g]
def crV : Except Int Cr → Value
  | .error k => .tuple #[.agg #[.string ⟨#[]⟩, .string ⟨#[]⟩, .string ⟨#[]⟩, .string ⟨#[]⟩, .string ⟨#[]⟩, .string ⟨#[]⟩, .string ⟨#[]⟩, .int .i64 0, .bool false], .int .u8 k]
  | .ok c => .tuple #[.agg (crC c).toArray, .int .u8 0]
theorem missing_at {l : List (List Int × List Int)} {i : Nat} (hi : i < 7) (h : (getF l (NMS.getD i [])).isSome = false) : missing l = true := by
  unfold missing
  rw [List.any_eq_true]
  refine ⟨NMS.getD i [], ?_, by rw [h]; rfl⟩
  rw [List.getD_eq_getElem?_getD, List.getElem?_eq_getElem (show i < NMS.length from hi)]
  exact List.getElem_mem _
theorem missing_no {l : List (List Int × List Int)} (h : ∀ j, j < 7 → (getF l (NMS.getD j [])).isSome = true) : missing l = false := by
  unfold missing
  rw [List.any_eq_false]
  intro m hm
  obtain ⟨j, hj, rfl⟩ := List.getElem_of_mem hm
  have h1 := h j hj
  rw [List.getD_eq_getElem?_getD, List.getElem?_eq_getElem hj] at h1
  rw [show (some NMS[j]).getD [] = NMS[j] from rfl] at h1
  rw [h1]
  decide
theorem numL_snoc (bs : List Int) (b : Int) : numL (bs ++ [b]) = numL bs * 256 + b := by unfold numL; rw [List.foldl_append]; rfl
theorem numL_take {bs : List Int} (h : By bs) : ∀ k : Nat, k ≤ bs.length → 0 ≤ numL (bs.take k) ∧ numL (bs.take k) < 256 ^ k
  | 0, _ => by rw [List.take_zero]; exact ⟨Int.le_refl 0, by decide⟩
  | k + 1, hk => by
    obtain ⟨h1, h2⟩ := numL_take h k (by omega)
    have h3 := h _ (getD_mem (l := bs) (i := k) (by omega))
    rw [take_snocI bs (by omega), numL_snoc, Int.pow_succ]
    omega
end Go.Proofs.YtfhbpgickkibmaaDoor
