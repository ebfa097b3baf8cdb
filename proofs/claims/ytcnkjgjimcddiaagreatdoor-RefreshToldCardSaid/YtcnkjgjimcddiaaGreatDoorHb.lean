/- The contracts of hash's digit, Hex and Unhex. The contract of hash's Unhex. -/
import Derived.Test.YtcnkjgjimcddiaaGreatDoorMc
namespace Go.Proofs.YtcnkjgjimcddiaaGreatDoor
open Go.RowKit

def hexC (n : Int) : Int := if n < 10 then 48 + n else 87 + n
def hexP (b : Int) : List Int := [hexC (b / 16), hexC (b % 16)]
def hexL (bs : List Int) : List Int := bs.flatMap hexP
theorem hexL_len : ∀ bs : List Int, (hexL bs).length = 2 * bs.length
  | [] => rfl
  | b :: bs => by
    have h := hexL_len bs
    rw [show hexL (b :: bs) = hexP b ++ hexL bs from rfl, List.length_append, h, List.length_cons]
    simp [hexP]; omega
theorem hexL_snoc (bs : List Int) (b : Int) : hexL (bs ++ [b]) = hexL bs ++ [hexC (b / 16), hexC (b % 16)] := by simp [hexL, hexP]
def digOk (c : Int) : Bool := decide (48 ≤ c ∧ c ≤ 57) || (decide (97 ≤ c ∧ c ≤ 102) || decide (65 ≤ c ∧ c ≤ 70))
def digV (c : Int) : Int := if 48 ≤ c ∧ c ≤ 57 then c - 48 else if 97 ≤ c ∧ c ≤ 102 then c - 87 else if 65 ≤ c ∧ c ≤ 70 then c - 55 else 0
/-- What Hex has done after k bytes. -/
structure HX (w : World) (bs : List Int) (m k : Nat) (wr : World) : Prop where
  r : Row wr w.heap.size 5 (U8 (hexL (bs.take k) ++ List.replicate (2 * (m - k)) 0))
  bw : Below w.heap.size w wr
def HXR (w : World) (bs : List Int) (m : Nat) (v v12 : Value) (wr : World) : Prop := ∃ k : Nat, k ≤ m ∧ v = .slice (some ⟨w.heap.size, 0, none⟩) (2 * k) (2 * m) ∧ v12 = .int .i64 k ∧ HX w bs m k wr
theorem i5 : ∃ i, Tryz.prog.info? 5 = some i ∧ i.size = 1 := by
  obtain ⟨i, h1, _, h2, _⟩ := i5all
  exact ⟨i, h1, h2⟩
theorem HX.step {w W : World} {bs : List Int} {m k : Nat} {x : Int} (hk : k < m) (hl : bs.length = m) (e : bs.take (k + 1) = bs.take k ++ [x]) (r : Row W w.heap.size 5 (U8 (hexL (bs.take k) ++ List.replicate (2 * (m - k)) 0))) (bw : Below w.heap.size w W) :
    HX w bs m (k + 1) (W.setCells w.heap.size (2 * k) [.int .u8 (hexC (x / 16)), .int .u8 (hexC (x % 16))]) := by
  refine ⟨?_, below_setCells (Nat.le_refl _) _ _ _ bw⟩
  rw [e, hexL_snoc]
  have e2 : List.replicate (2 * (m - k)) (0 : Int) = [0, 0] ++ List.replicate (2 * (m - (k + 1))) 0 := by
    rw [show 2 * (m - k) = 2 * (m - (k + 1)) + 1 + 1 by omega, List.replicate_succ, List.replicate_succ]; rfl
  have hl2 : (U8 (hexL (bs.take k))).length = 2 * k := by simp [U8, hexL_len]; omega
  rw [← hl2]
  have h1 : Row W w.heap.size 5 (U8 (hexL (bs.take k)) ++ [Value.int .u8 0, .int .u8 0] ++ U8 (List.replicate (2 * (m - (k + 1))) 0)) := by
    rw [e2] at r
    simpa [U8] using r
  have h2 := Row.setCells [Value.int .u8 (hexC (x / 16)), .int .u8 (hexC (x % 16))] _ _ _ W h1 rfl
  simpa [U8] using h2
theorem HX.len {w wr : World} {bs : List Int} {m k : Nat} (_H : HX w bs m k wr) (hk : k < m) (hl : bs.length = m) : 2 * k + 2 ≤ (U8 (hexL (bs.take k) ++ List.replicate (2 * (m - k)) 0)).length := by
  simp [U8, hexL_len]; omega
end Go.Proofs.YtcnkjgjimcddiaaGreatDoor
namespace Go.Proofs.YtcnkjgjimcddiaaGreatDoor
open Go.RowKit

def goodU (xs : List Int) : Bool := decide (xs.length % 2 = 0) && xs.all digOk
def unB (xs : List Int) (k : Nat) : Int := digV (xs.getD (2 * k) 0) * 16 + digV (xs.getD (2 * k + 1) 0)
def unL (xs : List Int) (n : Nat) : List Int := (List.range n).map (unB xs)
theorem unL_len (xs : List Int) (n : Nat) : (unL xs n).length = n := by simp [unL]
theorem unL_succ (xs : List Int) (n : Nat) : unL xs (n + 1) = unL xs n ++ [unB xs n] := by simp [unL, List.range_succ]
/-- What Unhex leaves. -/
def UnR (w : World) (xs : List Int) (e : Ending) (w' : World) : Prop := Below w.heap.size w w' ∧
  if goodU xs = true then e = .returned (.tuple #[.slice (some ⟨w.heap.size, 0, none⟩) (xs.length / 2) (xs.length / 2), .int .u8 0]) ∧ Row w' w.heap.size 5 (U8 (unL xs (xs.length / 2)))
  else e = .returned (.tuple #[.slice none 0 0, .int .u8 5])
theorem UnR.bad {w w' : World} {xs : List Int} {e : Ending} (h : goodU xs = false) (hb : Below w.heap.size w w') (he : e = .returned (.tuple #[.slice none 0 0, .int .u8 5])) : UnR w xs e w' := ⟨hb, by rw [h]; exact he⟩
structure UX (w : World) (xs : List Int) (m k : Nat) (wr : World) : Prop where
  r : Row wr w.heap.size 5 (U8 (unL xs k ++ List.replicate (m - k) 0))
  bw : Below w.heap.size w wr
  ok : ∀ j, j < 2 * k → digOk (xs.getD j 0) = true
def UXR (w : World) (xs : List Int) (m : Nat) (v4 v5 : Value) (wr : World) : Prop := ∃ k : Nat, k ≤ m ∧ v4 = .slice (some ⟨w.heap.size, 0, none⟩) k m ∧ v5 = .int .i64 (2 * (k : Int)) ∧ UX w xs m k wr
theorem UX.step {w wr W : World} {xs : List Int} {m k : Nat} {x : Int} (H : UX w xs m k wr) (hk : k < m) (hx : x = unB xs k) (h1 : digOk (xs.getD (2 * k) 0) = true) (h2 : digOk (xs.getD (2 * k + 1) 0) = true)
    (r : Row W w.heap.size 5 (U8 (unL xs k ++ List.replicate (m - k) 0))) (bw : Below w.heap.size w W) : UX w xs m (k + 1) (W.setCells w.heap.size k [.int .u8 x]) := by
  subst hx
  refine ⟨?_, below_setCells (Nat.le_refl _) _ _ _ bw, fun j hj => ?_⟩
  · rw [unL_succ]
    have e2 : List.replicate (m - k) (0 : Int) = [0] ++ List.replicate (m - (k + 1)) 0 := by
      rw [show m - k = (m - (k + 1)) + 1 by omega, List.replicate_succ]; rfl
    have h1 : Row W w.heap.size 5 (U8 (unL xs k) ++ [Value.int .u8 0] ++ U8 (List.replicate (m - (k + 1)) 0)) := by
      rw [e2] at r
      simpa [U8] using r
    have h2 := Row.setCells [Value.int .u8 (unB xs k)] _ _ _ W h1 rfl
    rw [show (U8 (unL xs k)).length = k by simp [U8, unL_len]] at h2
    simpa [U8] using h2
  · rcases (show j < 2 * k ∨ j = 2 * k ∨ j = 2 * k + 1 by omega) with h | rfl | rfl
    · exact H.ok j h
    · exact h1
    · exact h2
theorem UX.len {w wr : World} {xs : List Int} {m k : Nat} (_H : UX w xs m k wr) (hk : k < m) : k + 1 ≤ (U8 (unL xs k ++ List.replicate (m - k) 0)).length := by
  simp [U8, unL_len]; omega
theorem UX.all {w wr : World} {xs : List Int} {m : Nat} (H : UX w xs m m wr) (hm : xs.length = 2 * m) : goodU xs = true := by
  unfold goodU
  rw [Bool.and_eq_true, List.all_eq_true]
  refine ⟨by simp; omega, fun x hx => ?_⟩
  obtain ⟨j, hj, rfl⟩ := List.getElem_of_mem hx
  have := H.ok j (by omega)
  rwa [List.getD_eq_getElem?_getD, List.getElem?_eq_getElem hj] at this
end Go.Proofs.YtcnkjgjimcddiaaGreatDoor
