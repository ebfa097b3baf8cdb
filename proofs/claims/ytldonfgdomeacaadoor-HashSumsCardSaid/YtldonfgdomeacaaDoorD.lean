/- The plain hash state, fed byte by byte; words for a state and for bytes in memory. -/
import Derived.Test.YtldonfgdomeacaaDoorCw
namespace Go.Proofs.YtldonfgdomeacaaDoor
open Go.RowKit

structure HS where
  st : St
  n : Int
  tail : List Int
def Z64 : List Int := List.replicate 64 0
def heldN (n : Int) : Nat := (n % 64).toNat
def canonH (s : HS) : HS := ⟨s.st, s.n, s.tail.take (heldN s.n) ++ List.replicate (64 - heldN s.n) 0⟩
def stepH (s : HS) (b : Int) : HS :=
  if (s.n + 1) % 18446744073709551616 % 64 = 0 then ⟨blockS s.st (s.tail.set (heldN s.n) b), (s.n + 1) % 18446744073709551616, Z64⟩
  else ⟨s.st, (s.n + 1) % 18446744073709551616, s.tail.set (heldN s.n) b⟩
def feedH (s : HS) (bs : List Int) : HS := bs.foldl stepH (canonH s)
def By (bs : List Int) : Prop := ∀ x ∈ bs, 0 ≤ x ∧ x < 256
def HSR (s : HS) : Prop := StR s.st ∧ (0 ≤ s.n ∧ s.n < 18446744073709551616) ∧ Bytes s.tail

theorem heldN_lt (n : Int) : heldN n < 64 := by unfold heldN; omega
theorem heldN_cast {n : Int} : ((heldN n : Nat) : Int) = n % 64 := by unfold heldN; omega
theorem blockS_range (s : St) (bs : List Int) : StR (blockS s bs) :=
  ⟨AD_range _ _, AD_range _ _, AD_range _ _, AD_range _ _, AD_range _ _, AD_range _ _, AD_range _ _, AD_range _ _⟩
theorem Z64_bytes : Bytes Z64 := ⟨rfl, fun x hx => by obtain ⟨_, rfl⟩ := List.mem_replicate.1 hx; omega⟩
theorem canonH_range {s : HS} (h : HSR s) : HSR (canonH s) := by
  obtain ⟨h1, h2, h3, h4⟩ := h
  have hl := heldN_lt s.n
  refine ⟨h1, h2, by simp [canonH]; omega, fun x hx => ?_⟩
  rcases List.mem_append.1 hx with hx | hx
  · exact h4 x (List.mem_of_mem_take hx)
  · obtain ⟨_, rfl⟩ := List.mem_replicate.1 hx; omega
theorem set_bytes {l : List Int} (h : Bytes l) {i : Nat} {x : Int} (hx : 0 ≤ x ∧ x < 256) : Bytes (l.set i x) :=
  ⟨by rw [List.length_set]; exact h.1, fun y hy => by
    rcases List.mem_or_eq_of_mem_set hy with h1 | rfl
    · exact h.2 y h1
    · exact hx⟩
theorem stepH_range {s : HS} (h : HSR s) {b : Int} (hb : 0 ≤ b ∧ b < 256) : HSR (stepH s b) := by
  obtain ⟨h1, h2, h3⟩ := h
  unfold stepH
  split
  · exact ⟨blockS_range _ _, ⟨by dsimp only; omega, by dsimp only; omega⟩, Z64_bytes⟩
  · exact ⟨h1, ⟨by dsimp only; omega, by dsimp only; omega⟩, set_bytes h3 hb⟩
theorem foldH_range : ∀ (bs : List Int) {s : HS}, HSR s → By bs → HSR (bs.foldl stepH s)
  | [], _, h, _ => h
  | b :: bs, _, h, hb => foldH_range bs (stepH_range h (hb b (by simp))) (fun x hx => hb x (by simp [hx]))
theorem feedH_range {s : HS} (h : HSR s) {bs : List Int} (hb : By bs) : HSR (feedH s bs) := foldH_range bs (canonH_range h) hb
theorem stepH_n (s : HS) (b : Int) : (stepH s b).n = (s.n + 1) % 18446744073709551616 := by unfold stepH; split <;> rfl
theorem foldH_n : ∀ (bs : List Int) (s : HS), 0 ≤ s.n ∧ s.n < 18446744073709551616 → (bs.foldl stepH s).n = (s.n + bs.length) % 18446744073709551616
  | [], s, h => by simp; omega
  | b :: bs, s, h => by
    rw [List.foldl_cons, foldH_n bs _ (by rw [stepH_n]; omega), stepH_n, List.length_cons]
    push_cast
    omega
theorem feedH_n (s : HS) (bs : List Int) (h : 0 ≤ s.n ∧ s.n < 18446744073709551616) : (feedH s bs).n = (s.n + bs.length) % 18446744073709551616 := foldH_n bs _ h
/-- c laid over l from place h on. -/
def lay (l : List Int) (h : Nat) (c : List Int) : List Int := l.take h ++ c ++ l.drop (h + c.length)
theorem lay_length {l : List Int} {h : Nat} {c : List Int} (hl : h + c.length ≤ l.length) : (lay l h c).length = l.length := by simp [lay]; omega
theorem lay_cons {l : List Int} {h : Nat} {x : Int} {c : List Int} (hl : h + (c.length + 1) ≤ l.length) : lay (l.set h x) (h + 1) c = lay l h (x :: c) := by
  unfold lay
  rw [List.drop_set_of_lt (by omega), List.take_set, List.take_succ_eq_append_getElem (by omega), List.set_append_right _ _ (by simp; omega)]
  simp [Nat.min_eq_left (show h ≤ l.length by omega)]
  rw [show h + 1 + c.length = h + (c.length + 1) by omega]
theorem chunk_lt : ∀ (c : List Int) (s : HS), 0 ≤ s.n ∧ s.n < 18446744073709551616 → s.tail.length = 64 → heldN s.n + c.length < 64 → c.foldl stepH s = ⟨s.st, (s.n + c.length) % 18446744073709551616, lay s.tail (heldN s.n) c⟩
  | [], s, h, ht, hl => by
    have e : (s.n + ((([] : List Int).length : Nat) : Int)) % 18446744073709551616 = s.n := by simp; omega
    rw [e]; simp [lay]
  | b :: c, s, h, ht, hl => by
    rw [List.length_cons] at hl
    have hc := heldN_cast (n := s.n)
    have hne : ¬ (s.n + 1) % 18446744073709551616 % 64 = 0 := by omega
    have e : stepH s b = ⟨s.st, (s.n + 1) % 18446744073709551616, s.tail.set (heldN s.n) b⟩ := by unfold stepH; rw [if_neg hne]
    have hh : heldN ((s.n + 1) % 18446744073709551616) = heldN s.n + 1 := by unfold heldN at *; omega
    rw [List.foldl_cons, e, chunk_lt c _ (by dsimp only; omega) (by simpa using ht) (by dsimp only; rw [hh]; omega)]
    dsimp only
    rw [hh, lay_cons (by omega), List.length_cons]
    congr 1
    push_cast
    omega
theorem chunk_eq : ∀ (c : List Int) (s : HS), 0 ≤ s.n ∧ s.n < 18446744073709551616 → s.tail.length = 64 → heldN s.n + c.length = 64 → c.foldl stepH s = ⟨blockS s.st (lay s.tail (heldN s.n) c), (s.n + c.length) % 18446744073709551616, Z64⟩
  | [], s, h, ht, hl => by have := heldN_lt s.n; simp at hl; omega
  | [b], s, h, ht, hl => by
    simp at hl
    have hc := heldN_cast (n := s.n)
    have hne : (s.n + 1) % 18446744073709551616 % 64 = 0 := by omega
    rw [List.foldl_cons, List.foldl_nil]
    unfold stepH
    rw [if_pos hne]
    congr 2
    unfold lay
    rw [List.set_eq_take_append_cons_drop, if_pos (by omega)]
    simp
  | b :: b2 :: c, s, h, ht, hl => by
    simp only [List.length_cons] at hl
    have hc := heldN_cast (n := s.n)
    have hne : ¬ (s.n + 1) % 18446744073709551616 % 64 = 0 := by omega
    have e : stepH s b = ⟨s.st, (s.n + 1) % 18446744073709551616, s.tail.set (heldN s.n) b⟩ := by unfold stepH; rw [if_neg hne]
    have hh : heldN ((s.n + 1) % 18446744073709551616) = heldN s.n + 1 := by unfold heldN at *; omega
    rw [List.foldl_cons, e, chunk_eq (b2 :: c) _ (by dsimp only; omega) (by simpa using ht) (by dsimp only; rw [hh, List.length_cons]; omega)]
    dsimp only
    rw [hh, lay_cons (by rw [List.length_cons]; omega)]
    simp only [List.length_cons]
    congr 1
    push_cast
    omega
/-- The state after the first k bytes. -/
def atK (s : HS) (bs : List Int) (k : Nat) : HS := feedH s (bs.take k)
theorem atK_n {s : HS} (h : HSR s) (bs : List Int) {k : Nat} (hk : k ≤ bs.length) : (atK s bs k).n = (s.n + k) % 18446744073709551616 := by
  unfold atK
  rw [feedH_n _ _ h.2.1, List.length_take, Nat.min_eq_left hk]
theorem atK_range {s : HS} (h : HSR s) {bs : List Int} (hb : By bs) (k : Nat) : HSR (atK s bs k) := feedH_range h (fun x hx => hb x (List.mem_of_mem_take hx))
theorem atK_add (s : HS) (bs : List Int) (k m : Nat) : atK s bs (k + m) = ((bs.drop k).take m).foldl stepH (atK s bs k) := by
  unfold atK feedH
  rw [List.take_add, List.foldl_append]
theorem atK_all (s : HS) (bs : List Int) : atK s bs bs.length = feedH s bs := by unfold atK; rw [List.take_length]

theorem feed_done {s : HS} (h : HSR s) {bs : List Int} (hb : By bs) {k r : Nat} (hk : k + r = bs.length) (hl : heldN (atK s bs k).n + r < 64) :
    feedH s bs = ⟨(atK s bs k).st, (s.n + (k + r : Nat)) % 18446744073709551616, lay (atK s bs k).tail (heldN (atK s bs k).n) ((bs.drop k).take r)⟩ := by
  have hr := atK_range h hb k
  have hn := atK_n h bs (show k ≤ bs.length by omega)
  have e : ((bs.drop k).take r).length = r := by rw [List.length_take, List.length_drop]; omega
  rw [← atK_all, ← hk, atK_add, chunk_lt _ _ hr.2.1 hr.2.2.1 (by rw [e]; exact hl), e]
  congr 1
  have := h.2.1
  rw [hn]
  omega
theorem feed_more {s : HS} (h : HSR s) {bs : List Int} (hb : By bs) {k q : Nat} (hk : k + q ≤ bs.length) (hl : heldN (atK s bs k).n + q = 64) :
    atK s bs (k + q) = ⟨blockS (atK s bs k).st (lay (atK s bs k).tail (heldN (atK s bs k).n) ((bs.drop k).take q)), (s.n + (k + q : Nat)) % 18446744073709551616, Z64⟩ ∧ heldN (atK s bs (k + q)).n = 0 := by
  have hr := atK_range h hb k
  have hn := atK_n h bs (show k ≤ bs.length by omega)
  have hn2 := atK_n h bs hk
  have e : ((bs.drop k).take q).length = q := by rw [List.length_take, List.length_drop]; omega
  refine ⟨?_, ?_⟩
  · rw [atK_add, chunk_eq _ _ hr.2.1 hr.2.2.1 (by rw [e]; exact hl), e]
    congr 1
    have := h.2.1
    rw [hn]
    omega
  · unfold heldN at *
    rw [hn] at hl
    rw [hn2]
    omega
theorem lay_bytes {l c : List Int} {h : Nat} (hl : Bytes l) (hc : By c) (hh : h + c.length ≤ 64) : Bytes (lay l h c) := by
  have h0 := hl.1
  refine ⟨by rw [lay_length (by omega), h0], fun x hx => ?_⟩
  unfold lay at hx
  rcases List.mem_append.1 hx with hx | hx
  · rcases List.mem_append.1 hx with hx | hx
    · exact hl.2 x (List.mem_of_mem_take hx)
    · exact hc x hx
  · exact hl.2 x (List.mem_of_mem_drop hx)
/-- The cells of a state. -/
def hsL (s : HS) : List Value := U32 (stL s.st) ++ (.int .u64 s.n :: U8 s.tail)
def hsV (s : HS) : Value := .agg (hsL s).toArray
/-- The slice at A holds these bytes, below block B. -/
def Bs (w : World) (B : Nat) (A : Option Addr) (xs : List Int) : Prop := 0 < xs.length → ∃ ad, A = some ad ∧ ad.block < B ∧ ∀ j x, xs[j]? = some x → w.cell? (ad.add j) = some (.int .u8 x)
theorem add_block (a : Addr) (n : Nat) : (a.add n).block = a.block := by unfold Addr.add; split <;> rfl
theorem add_add (a : Addr) (i j : Nat) : (a.add i).add j = a.add (i + j) := by
  unfold Addr.add
  by_cases hi : i = 0 <;> by_cases hj : j = 0 <;> simp [hi, hj, Nat.add_assoc]
section
variable {w w' : World} {B : Nat} {A : Option Addr} {xs : List Int}
theorem Bs.nil : Bs w B A [] := fun h => absurd h (by simp)
theorem Bs.keep (h : Bs w B A xs) (hk : ∀ p : Addr, p.block < B → w'.cell? p = w.cell? p) : Bs w' B A xs := fun hn => by
  obtain ⟨ad, e, hb, hc⟩ := h hn
  exact ⟨ad, e, hb, fun j u hu => (hk _ (by rw [add_block]; exact hb)).trans (hc j u hu)⟩
theorem Bs.below (h : Bs w B A xs) (hb : Below B w w') : Bs w' B A xs := h.keep fun _ hp => hb.cell hp
theorem Bs.up (h : Bs w B A xs) {B' : Nat} (hB : B ≤ B') : Bs w B' A xs := fun hn => by
  obtain ⟨ad, e, hb, hc⟩ := h hn
  exact ⟨ad, e, Nat.lt_of_lt_of_le hb hB, hc⟩
theorem Bs.drop (h : Bs w B A xs) {k cap : Nat} (hk : k ≤ xs.length) (hc : xs.length ≤ cap) : Bs w B (if cap = k then A else A.map (·.add k)) (xs.drop k) := fun hn => by
  rw [List.length_drop] at hn
  obtain ⟨ad, rfl, hb, hcell⟩ := h (by omega)
  rw [if_neg (by omega)]
  refine ⟨ad.add k, rfl, by rw [add_block]; exact hb, fun j u hu => ?_⟩
  rw [add_add]
  exact hcell _ u (by rw [← hu, List.getElem?_drop])
end
theorem info5 : (Tryd.prog.info? 5).map (·.size) = some 1 := by kernel_rfl
theorem info30 : (Tryd.prog.info? 30).map (·.size) = some 64 := by kernel_rfl
theorem info30b : ∃ a, Tryd.prog.info? 30 = some a ∧ a.size = 64 := by
  have h := info30
  rw [Option.map_eq_some_iff] at h
  exact h
theorem info32 : (Tryd.prog.info? 32).map (·.size) = some 73 := by kernel_rfl
theorem info24 : (Tryd.prog.info? 24).map (·.size) = some 32 := by kernel_rfl
/-- copy into a row, from bytes that may be none. -/
theorem run_copyB {w : World} {ty : TypeId} {b o dLen dCap B sLen sCap : Nat} {A : Option Addr} {xs : List Int} (hx : xs.length = sLen) (hs : Bs w B A xs) (ht : w.there b o dLen) :
    (Builtin.copy_ #[22, 22] ty #[.slice (some ⟨b, o, none⟩) dLen dCap, .slice A sLen sCap]).run Tryd.prog w = .ok (goInt (Nat.min sLen dLen)) (w.setCells b o (U8 (xs.take dLen))) := by
  have hlen : (U8 (xs.take dLen)).length = Nat.min sLen dLen := by simp [U8, hx, Nat.min_comm]
  by_cases h0 : Nat.min sLen dLen = 0
  · rw [run_copy_none w 22 22 ty 5 _ _ _ _ _ _ Tryd.underlying22 info5 h0, h0]
    rw [h0] at hlen
    rw [List.eq_nil_of_length_eq_zero hlen]
    rfl
  · have hm : Nat.min sLen dLen ≤ dLen := Nat.min_le_right _ _
    have hm2 : Nat.min sLen dLen ≤ sLen := Nat.min_le_left _ _
    obtain ⟨ad, rfl, hb, hc⟩ := hs (by omega)
    have h := run_copy_cells (P := Tryd.prog) w 22 22 ty 5 b o dLen dCap ad sLen sCap (U8 (xs.take dLen)) Tryd.underlying22 info5 hlen
      (fun j v hv => by
        unfold U8 at hv
        rw [List.getElem?_map, Option.map_eq_some_iff] at hv
        obtain ⟨x, hx', rfl⟩ := hv
        rw [List.getElem?_take] at hx'
        split at hx'
        · exact hc j x hx'
        · cases hx')
      (fun j hj => (ht j (by omega)).1) (fun j hj => (ht j (by omega)).2)
      (fun v hv => by obtain ⟨x, _, rfl⟩ := List.mem_map.1 hv; rfl)
    rw [h, hlen]
theorem Row.at {w : World} {b : Nat} {T : TypeId} {pre cs post : List Value} (h : Row w b T (pre ++ cs ++ post)) : w.rangeAt b pre.length cs := fun j v hv => by
  have hj : j < cs.length := (List.getElem?_eq_some_iff.1 hv).1
  rw [h.cell, List.append_assoc, List.getElem?_append_right (by omega), Nat.add_sub_cancel_left, List.getElem?_append_left hj, hv]
theorem Row.there_at {w : World} {b : Nat} {T : TypeId} {vs : List Value} (h : Row w b T vs) {o n : Nat} (hn : o + n ≤ vs.length) : w.there b o n := fun j hj => by
  rw [h.cell (o + j), List.getElem?_eq_getElem (by omega)]
  exact ⟨rfl, h.frozen _⟩
theorem stL_len (s : St) : (U32 (stL s)).length = 8 := rfl
theorem hsL_len {s : HS} (h : s.tail.length = 64) : (hsL s).length = 73 := by simp [hsL, stL_len, U8, h]
section
variable {w : World} {b : Nat} {T : TypeId} {s : HS}
theorem Row.st_at (h : Row w b T (hsL s)) : w.rangeAt b 0 (U32 (stL s.st)) := by
  have h1 : Row w b T ([] ++ U32 (stL s.st) ++ (.int .u64 s.n :: U8 s.tail)) := h
  exact h1.at
theorem Row.n_at (h : Row w b T (hsL s)) : w.cell? ⟨b, 8, none⟩ = some (.int .u64 s.n) := h.cell 8
theorem Row.tail_at (h : Row w b T (hsL s)) : w.rangeAt b 9 (U8 s.tail) := by
  have h1 : Row w b T ((U32 (stL s.st) ++ [.int .u64 s.n]) ++ U8 s.tail ++ []) := by simpa [hsL] using h
  exact h1.at
theorem Row.set_st (h : Row w b T (hsL s)) (r : St) : Row (w.setCells b 0 (U32 (stL r))) b T (hsL ⟨r, s.n, s.tail⟩) :=
  Row.setCells (U32 (stL r)) (U32 (stL s.st)) [] (.int .u64 s.n :: U8 s.tail) w h rfl
theorem Row.set_tail (h : Row w b T (hsL s)) (t : List Int) (ht : s.tail.length = t.length) : Row (w.setCells b 9 (U8 t)) b T (hsL ⟨s.st, s.n, t⟩) := by
  have h1 : Row w b T ((U32 (stL s.st) ++ [.int .u64 s.n]) ++ U8 s.tail ++ []) := by simpa [hsL] using h
  have h2 := Row.setCells (U8 t) (U8 s.tail) (U32 (stL s.st) ++ [.int .u64 s.n]) [] w h1 (by simp [U8, ht])
  rw [show (U32 (stL s.st) ++ [Value.int .u64 s.n]).length = 9 from rfl] at h2
  simpa [hsL] using h2
theorem Row.lay_tail (h : Row w b T (hsL s)) (k : Nat) (c : List Int) (hk : k + c.length ≤ s.tail.length) : Row (w.setCells b (9 + k) (U8 c)) b T (hsL ⟨s.st, s.n, lay s.tail k c⟩) := by
  have e : s.tail = s.tail.take k ++ (s.tail.drop k).take c.length ++ s.tail.drop (k + c.length) := by
    rw [List.append_assoc, ← List.drop_drop, List.take_append_drop, List.take_append_drop]
  have h1 : Row w b T ((U32 (stL s.st) ++ [.int .u64 s.n] ++ U8 (s.tail.take k)) ++ U8 ((s.tail.drop k).take c.length) ++ U8 (s.tail.drop (k + c.length))) := by
    have h' := h
    unfold hsL at h'
    rw [e] at h'
    simpa [U8] using h'
  have h2 := Row.setCells (U8 c) (U8 ((s.tail.drop k).take c.length)) (U32 (stL s.st) ++ [.int .u64 s.n] ++ U8 (s.tail.take k)) (U8 (s.tail.drop (k + c.length))) w h1 (by simp [U8]; omega)
  have hl : (U32 (stL s.st) ++ [Value.int .u64 s.n] ++ U8 (s.tail.take k)).length = 9 + k := by simp [U8, stL_len]; omega
  rw [hl] at h2
  simpa [hsL, lay, U8] using h2
end
end Go.Proofs.YtldonfgdomeacaaDoor
