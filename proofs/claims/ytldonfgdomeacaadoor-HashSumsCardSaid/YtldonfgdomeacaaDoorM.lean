/- Plain laws of the hash state: what is fed keeps the tail clean; two pieces are as one. -/
import Derived.Test.YtldonfgdomeacaaDoorF
namespace Go.Proofs.YtldonfgdomeacaaDoor
open Go.RowKit

def Clean (s : HS) : Prop := canonH s = s
theorem clean_tail {s : HS} : Clean s ↔ s.tail.take (heldN s.n) ++ List.replicate (64 - heldN s.n) 0 = s.tail :=
  ⟨fun h => congrArg HS.tail h, fun h => by unfold Clean canonH; rw [h]⟩
theorem take_canon (l : List Int) (h : Nat) (hl : h ≤ l.length) : (l.take h ++ List.replicate (64 - h) 0).take h = l.take h := by
  rw [List.take_append_of_le_length (by rw [List.length_take]; omega), List.take_take, Nat.min_self]
theorem canon_clean {s : HS} (h : s.tail.length = 64) : Clean (canonH s) := by
  have hl := heldN_lt s.n
  rw [clean_tail]
  show (s.tail.take (heldN s.n) ++ List.replicate (64 - heldN s.n) 0).take (heldN s.n) ++ List.replicate (64 - heldN s.n) 0 = _
  rw [take_canon _ _ (by omega)]
  rfl
theorem step_clean {s : HS} (hc : Clean s) (h : s.tail.length = 64) (b : Int) : Clean (stepH s b) := by
  have hl := heldN_lt s.n
  have hh := heldN_cast (n := s.n)
  rw [clean_tail] at hc ⊢
  unfold stepH
  split
  · rename_i hw
    have h0 : heldN ((s.n + 1) % 18446744073709551616) = 0 := by unfold heldN; omega
    dsimp only
    rw [h0]
    rfl
  · rename_i hw
    have h1 : heldN ((s.n + 1) % 18446744073709551616) = heldN s.n + 1 := by unfold heldN at *; omega
    dsimp only
    rw [h1]
    have e : s.tail.set (heldN s.n) b = s.tail.take (heldN s.n) ++ (b :: List.replicate (64 - (heldN s.n + 1)) 0) := by
      conv => lhs; rw [← hc]
      rw [List.set_append_right _ _ (by rw [List.length_take]; omega), List.length_take, Nat.min_eq_left (by omega), Nat.sub_self]
      rw [show 64 - heldN s.n = (64 - (heldN s.n + 1)) + 1 by omega, List.replicate_succ, List.set_cons_zero]
    rw [e, List.take_append, List.length_take, Nat.min_eq_left (by omega), Nat.add_sub_cancel_left, List.take_succ_cons, List.take_zero, List.take_take, Nat.min_eq_right (by omega)]
    simp
theorem step_len {s : HS} (h : s.tail.length = 64) (b : Int) : (stepH s b).tail.length = 64 := by
  unfold stepH
  split
  · rfl
  · simpa using h
theorem fold_clean : ∀ (bs : List Int) {s : HS}, Clean s → s.tail.length = 64 → Clean (bs.foldl stepH s)
  | [], _, h, _ => h
  | b :: bs, _, h, hl => fold_clean bs (step_clean h hl b) (step_len hl b)
theorem feed_clean {s : HS} (h : s.tail.length = 64) (bs : List Int) : Clean (feedH s bs) := fold_clean bs (canon_clean h) (by have := heldN_lt s.n; simp [canonH]; omega)
theorem feed_feed {s : HS} (h : s.tail.length = 64) (a b : List Int) : feedH (feedH s a) b = feedH s (a ++ b) := by
  unfold feedH
  rw [List.foldl_append, show canonH (List.foldl stepH (canonH s) a) = _ from feed_clean h a]
  rfl
theorem start_clean : Clean startH := by
  rw [clean_tail]; rfl
theorem feed_start_nil : feedH startH [] = startH := start_clean
theorem feed_canon {s t : HS} (h : canonH t = canonH s) (bs : List Int) : feedH t bs = feedH s bs := by unfold feedH; rw [h]
theorem fin_canon {s t : HS} (h : canonH t = canonH s) : finH t = finH s := by
  unfold finH
  rw [feed_canon h, show t.n = s.n from (congrArg HS.n h : (canonH t).n = (canonH s).n)]
end Go.Proofs.YtldonfgdomeacaaDoor
