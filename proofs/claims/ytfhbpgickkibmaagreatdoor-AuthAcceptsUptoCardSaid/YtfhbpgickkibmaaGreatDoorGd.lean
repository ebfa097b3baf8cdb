/- The plain hash state; the contract of hash's Feed. The contracts of hash's Start and Finish. -/
import Derived.Test.YtfhbpgickkibmaaGreatDoorGb
import Derived.Laws.MakeOwn
namespace Go.Proofs.YtfhbpgickkibmaaGreatDoor
open Go.RowKit

structure HS where
  st : St
  n : Int
  tail : List Int
def Z64 : List Int := List.replicate 64 0
def heldN (n : Int) : Nat := (n % 64).toNat
def canonH (s : HS) : HS := ⟨s.st, s.n, s.tail.take (heldN s.n) ++ List.replicate (64 - heldN s.n) 0⟩
def stepH (s : HS) (b : Int) : HS :=
  if (s.n + 1) % 18446744073709551616 % 64 = 0 then ⟨blockS s.st (s.tail.set (heldN s.n) b), (s.n + 1) % 18446744073709551616, Z64⟩
  else ⟨s.st, (s.n + 1) % 18446744073709551616, s.tail.set (heldN s.n) b⟩
def feedH (s : HS) (bs : List Int) : HS := bs.foldl stepH (canonH s)
def HSR (s : HS) : Prop := StR s.st ∧ (0 ≤ s.n ∧ s.n < 18446744073709551616) ∧ Bytes s.tail
theorem heldN_lt (n : Int) : heldN n < 64 := by unfold heldN; omega
theorem heldN_cast {n : Int} : ((heldN n : Nat) : Int) = n % 64 := by unfold heldN; omega
theorem blockS_range (s : St) (bs : List Int) : StR (blockS s bs) :=
  ⟨AD_range _ _, AD_range _ _, AD_range _ _, AD_range _ _, AD_range _ _, AD_range _ _, AD_range _ _, AD_range _ _⟩
theorem Z64_bytes : Bytes Z64 := ⟨rfl, fun x hx => by obtain ⟨_, rfl⟩ := List.mem_replicate.1 hx; omega⟩
theorem canonH_range {s : HS} (h : HSR s) : HSR (canonH s) := by
  obtain ⟨h1, h2, h3, h4⟩ := h
  have hl := heldN_lt s.n
  refine ⟨h1, h2, by simp [canonH]; omega, fun x hx => ?_⟩
  rcases List.mem_append.1 hx with hx | hx
  · exact h4 x (List.mem_of_mem_take hx)
  · obtain ⟨_, rfl⟩ := List.mem_replicate.1 hx; omega
theorem set_bytes {l : List Int} (h : Bytes l) {i : Nat} {x : Int} (hx : 0 ≤ x ∧ x < 256) : Bytes (l.set i x) :=
  ⟨by rw [List.length_set]; exact h.1, fun y hy => by
    rcases List.mem_or_eq_of_mem_set hy with h1 | rfl
    · exact h.2 y h1
    · exact hx⟩
theorem stepH_range {s : HS} (h : HSR s) {b : Int} (hb : 0 ≤ b ∧ b < 256) : HSR (stepH s b) := by
  obtain ⟨h1, h2, h3⟩ := h
  unfold stepH
  split
  · exact ⟨blockS_range _ _, ⟨by dsimp only; omega, by dsimp only; omega⟩, Z64_bytes⟩
  · exact ⟨h1, ⟨by dsimp only; omega, by dsimp only; omega⟩, set_bytes h3 hb⟩
theorem foldH_range : ∀ (bs : List Int) {s : HS}, HSR s → By bs → HSR (bs.foldl stepH s)
  | [], _, h, _ => h
  | b :: bs, _, h, hb => foldH_range bs (stepH_range h (hb b (by simp))) (fun x hx => hb x (by simp [hx]))
theorem feedH_range {s : HS} (h : HSR s) {bs : List Int} (hb : By bs) : HSR (feedH s bs) := foldH_range bs (canonH_range h) hb
theorem stepH_n (s : HS) (b : Int) : (stepH s b).n = (s.n + 1) % 18446744073709551616 := by unfold stepH; split <;> rfl
theorem foldH_n : ∀ (bs : List Int) (s : HS), 0 ≤ s.n ∧ s.n < 18446744073709551616 → (bs.foldl stepH s).n = (s.n + bs.length) % 18446744073709551616
  | [], s, h => by simp; omega
  | b :: bs, s, h => by
    rw [List.foldl_cons, foldH_n bs _ (by rw [stepH_n]; omega), stepH_n, List.length_cons]
    push_cast
    omega
theorem feedH_n (s : HS) (bs : List Int) (h : 0 ≤ s.n ∧ s.n < 18446744073709551616) : (feedH s bs).n = (s.n + bs.length) % 18446744073709551616 := foldH_n bs _ h
/-- c laid over l from place h on. -/
def lay (l : List Int) (h : Nat) (c : List Int) : List Int := l.take h ++ c ++ l.drop (h + c.length)
theorem lay_length {l : List Int} {h : Nat} {c : List Int} (hl : h + c.length ≤ l.length) : (lay l h c).length = l.length := by simp [lay]; omega
theorem lay_cons {l : List Int} {h : Nat} {x : Int} {c : List Int} (hl : h + (c.length + 1) ≤ l.length) : lay (l.set h x) (h + 1) c = lay l h (x :: c) := by
  unfold lay
  rw [List.drop_set_of_lt (by omega), List.take_set, List.take_succ_eq_append_getElem (by omega), List.set_append_right _ _ (by simp; omega)]
  simp [Nat.min_eq_left (show h ≤ l.length by omega)]
  rw [show h + 1 + c.length = h + (c.length + 1) by omega]
theorem chunk_lt : ∀ (c : List Int) (s : HS), 0 ≤ s.n ∧ s.n < 18446744073709551616 → s.tail.length = 64 → heldN s.n + c.length < 64 → c.foldl stepH s = ⟨s.st, (s.n + c.length) % 18446744073709551616, lay s.tail (heldN s.n) c⟩
  | [], s, h, ht, hl => by
    have e : (s.n + ((([] : List Int).length : Nat) : Int)) % 18446744073709551616 = s.n := by simp; omega
    rw [e]; simp [lay]
  | b :: c, s, h, ht, hl => by
    rw [List.length_cons] at hl
    have hc := heldN_cast (n := s.n)
    have hne : ¬ (s.n + 1) % 18446744073709551616 % 64 = 0 := by omega
    have e : stepH s b = ⟨s.st, (s.n + 1) % 18446744073709551616, s.tail.set (heldN s.n) b⟩ := by unfold stepH; rw [if_neg hne]
    have hh : heldN ((s.n + 1) % 18446744073709551616) = heldN s.n + 1 := by unfold heldN at *; omega
    rw [List.foldl_cons, e, chunk_lt c _ (by dsimp only; omega) (by simpa using ht) (by dsimp only; rw [hh]; omega)]
    dsimp only
    rw [hh, lay_cons (by omega), List.length_cons]
    congr 1
    push_cast
    omega
theorem chunk_eq : ∀ (c : List Int) (s : HS), 0 ≤ s.n ∧ s.n < 18446744073709551616 → s.tail.length = 64 → heldN s.n + c.length = 64 → c.foldl stepH s = ⟨blockS s.st (lay s.tail (heldN s.n) c), (s.n + c.length) % 18446744073709551616, Z64⟩
  | [], s, h, ht, hl => by have := heldN_lt s.n; simp at hl; omega
  | [b], s, h, ht, hl => by
    simp at hl
    have hc := heldN_cast (n := s.n)
    have hne : (s.n + 1) % 18446744073709551616 % 64 = 0 := by omega
    rw [List.foldl_cons, List.foldl_nil]
    unfold stepH
    rw [if_pos hne]
    congr 2
    unfold lay
    rw [List.set_eq_take_append_cons_drop, if_pos (by omega)]
    simp
  | b :: b2 :: c, s, h, ht, hl => by
    simp only [List.length_cons] at hl
    have hc := heldN_cast (n := s.n)
    have hne : ¬ (s.n + 1) % 18446744073709551616 % 64 = 0 := by omega
    have e : stepH s b = ⟨s.st, (s.n + 1) % 18446744073709551616, s.tail.set (heldN s.n) b⟩ := by unfold stepH; rw [if_neg hne]
    have hh : heldN ((s.n + 1) % 18446744073709551616) = heldN s.n + 1 := by unfold heldN at *; omega
    rw [List.foldl_cons, e, chunk_eq (b2 :: c) _ (by dsimp only; omega) (by simpa using ht) (by dsimp only; rw [hh, List.length_cons]; omega)]
    dsimp only
    rw [hh, lay_cons (by rw [List.length_cons]; omega)]
    simp only [List.length_cons]
    congr 1
    push_cast
    omega
/-- The state after the first k bytes. -/
def atK (s : HS) (bs : List Int) (k : Nat) : HS := feedH s (bs.take k)
theorem atK_n {s : HS} (h : HSR s) (bs : List Int) {k : Nat} (hk : k ≤ bs.length) : (atK s bs k).n = (s.n + k) % 18446744073709551616 := by
  unfold atK
  rw [feedH_n _ _ h.2.1, List.length_take, Nat.min_eq_left hk]
theorem atK_range {s : HS} (h : HSR s) {bs : List Int} (hb : By bs) (k : Nat) : HSR (atK s bs k) := feedH_range h (fun x hx => hb x (List.mem_of_mem_take hx))
theorem atK_add (s : HS) (bs : List Int) (k m : Nat) : atK s bs (k + m) = ((bs.drop k).take m).foldl stepH (atK s bs k) := by
  unfold atK feedH
  rw [List.take_add, List.foldl_append]
theorem atK_all (s : HS) (bs : List Int) : atK s bs bs.length = feedH s bs := by unfold atK; rw [List.take_length]
theorem feed_done {s : HS} (h : HSR s) {bs : List Int} (hb : By bs) {k r : Nat} (hk : k + r = bs.length) (hl : heldN (atK s bs k).n + r < 64) :
    feedH s bs = ⟨(atK s bs k).st, (s.n + (k + r : Nat)) % 18446744073709551616, lay (atK s bs k).tail (heldN (atK s bs k).n) ((bs.drop k).take r)⟩ := by
  have hr := atK_range h hb k
  have hn := atK_n h bs (show k ≤ bs.length by omega)
  have e : ((bs.drop k).take r).length = r := by rw [List.length_take, List.length_drop]; omega
  rw [← atK_all, ← hk, atK_add, chunk_lt _ _ hr.2.1 hr.2.2.1 (by rw [e]; exact hl), e]
  congr 1
  have := h.2.1
  rw [hn]
  omega
theorem feed_more {s : HS} (h : HSR s) {bs : List Int} (hb : By bs) {k q : Nat} (hk : k + q ≤ bs.length) (hl : heldN (atK s bs k).n + q = 64) :
    atK s bs (k + q) = ⟨blockS (atK s bs k).st (lay (atK s bs k).tail (heldN (atK s bs k).n) ((bs.drop k).take q)), (s.n + (k + q : Nat)) % 18446744073709551616, Z64⟩ ∧ heldN (atK s bs (k + q)).n = 0 := by
  have hr := atK_range h hb k
  have hn := atK_n h bs (show k ≤ bs.length by omega)
  have hn2 := atK_n h bs hk
  have e : ((bs.drop k).take q).length = q := by rw [List.length_take, List.length_drop]; omega
  refine ⟨?_, ?_⟩
  · rw [atK_add, chunk_eq _ _ hr.2.1 hr.2.2.1 (by rw [e]; exact hl), e]
    congr 1
    have := h.2.1
    rw [hn]
    omega
  · unfold heldN at *
    rw [hn] at hl
    rw [hn2]
    omega
theorem lay_bytes {l c : List Int} {h : Nat} (hl : Bytes l) (hc : By c) (hh : h + c.length ≤ 64) : Bytes (lay l h c) := by
  have h0 := hl.1
  refine ⟨by rw [lay_length (by omega), h0], fun x hx => ?_⟩
  unfold lay at hx
  rcases List.mem_append.1 hx with hx | hx
  · rcases List.mem_append.1 hx with hx | hx
    · exact hl.2 x (List.mem_of_mem_take hx)
    · exact hc x hx
  · exact hl.2 x (List.mem_of_mem_drop hx)
/-- The cells of a state. -/
def hsL (s : HS) : List Value := U32 (stL s.st) ++ (.int .u64 s.n :: U8 s.tail)
def hsV (s : HS) : Value := .agg (hsL s).toArray
section
variable {w w' : World} {B : Nat} {A : Option Addr} {xs : List Int}
theorem Bs.drop (h : Bs w B A xs) {k cap : Nat} (hk : k ≤ xs.length) (hc : xs.length ≤ cap) : Bs w B (if cap = k then A else A.map (·.add k)) (xs.drop k) := fun hn => by
  rw [List.length_drop] at hn
  obtain ⟨ad, rfl, hb, hcell⟩ := h (by omega)
  rw [if_neg (by omega)]
  refine ⟨ad.add k, rfl, by rw [add_block]; exact hb, fun j u hu => ?_⟩
  rw [add_add]
  exact hcell _ u (by rw [← hu, List.getElem?_drop])
end
theorem info5 : (Tryz.prog.info? 5).map (·.size) = some 1 := by kernel_rfl
theorem info30 : (Tryz.prog.info? 152).map (·.size) = some 64 := by kernel_rfl
theorem info30b : ∃ a, Tryz.prog.info? 152 = some a ∧ a.size = 64 := by
  have h := info30
  rw [Option.map_eq_some_iff] at h
  exact h
theorem info32 : (Tryz.prog.info? 154).map (·.size) = some 73 := by kernel_rfl
theorem info24 : (Tryz.prog.info? 122).map (·.size) = some 32 := by kernel_rfl
/-- copy into a row, from bytes that may be none. -/
theorem run_copyB {w : World} {ty : TypeId} {b o dLen dCap B sLen sCap : Nat} {A : Option Addr} {xs : List Int} (hx : xs.length = sLen) (hs : Bs w B A xs) (ht : w.there b o dLen) :
    (Builtin.copy_ #[31, 31] ty #[.slice (some ⟨b, o, none⟩) dLen dCap, .slice A sLen sCap]).run Tryz.prog w = .ok (goInt (Nat.min sLen dLen)) (w.setCells b o (U8 (xs.take dLen))) := by
  have hlen : (U8 (xs.take dLen)).length = Nat.min sLen dLen := by simp [U8, hx, Nat.min_comm]
  by_cases h0 : Nat.min sLen dLen = 0
  · rw [run_copy_none w 31 31 ty 5 _ _ _ _ _ _ Tryz.underlying31 info5 h0, h0]
    rw [h0] at hlen
    rw [List.eq_nil_of_length_eq_zero hlen]
    rfl
  · have hm : Nat.min sLen dLen ≤ dLen := Nat.min_le_right _ _
    have hm2 : Nat.min sLen dLen ≤ sLen := Nat.min_le_left _ _
    obtain ⟨ad, rfl, hb, hc⟩ := hs (by omega)
    have h := run_copy_cells (P := Tryz.prog) w 31 31 ty 5 b o dLen dCap ad sLen sCap (U8 (xs.take dLen)) Tryz.underlying31 info5 hlen
      (fun j v hv => by
        unfold U8 at hv
        rw [List.getElem?_map, Option.map_eq_some_iff] at hv
        obtain ⟨x, hx', rfl⟩ := hv
        rw [List.getElem?_take] at hx'
        split at hx'
        · exact hc j x hx'
        · cases hx')
      (fun j hj => (ht j (by omega)).1) (fun j hj => (ht j (by omega)).2)
      (fun v hv => by obtain ⟨x, _, rfl⟩ := List.mem_map.1 hv; rfl)
    rw [h, hlen]
theorem Row.at {w : World} {b : Nat} {T : TypeId} {pre cs post : List Value} (h : Row w b T (pre ++ cs ++ post)) : w.rangeAt b pre.length cs := fun j v hv => by
  have hj : j < cs.length := (List.getElem?_eq_some_iff.1 hv).1
  rw [h.cell, List.append_assoc, List.getElem?_append_right (by omega), Nat.add_sub_cancel_left, List.getElem?_append_left hj, hv]
theorem Row.there_at {w : World} {b : Nat} {T : TypeId} {vs : List Value} (h : Row w b T vs) {o n : Nat} (hn : o + n ≤ vs.length) : w.there b o n := fun j hj => by
  rw [h.cell (o + j), List.getElem?_eq_getElem (by omega)]
  exact ⟨rfl, h.frozen _⟩
theorem stL_len (s : St) : (U32 (stL s)).length = 8 := rfl
theorem hsL_len {s : HS} (h : s.tail.length = 64) : (hsL s).length = 73 := by simp [hsL, stL_len, U8, h]
section
variable {w : World} {b : Nat} {T : TypeId} {s : HS}
theorem Row.st_at (h : Row w b T (hsL s)) : w.rangeAt b 0 (U32 (stL s.st)) := by
  have h1 : Row w b T ([] ++ U32 (stL s.st) ++ (.int .u64 s.n :: U8 s.tail)) := h
  exact h1.at
theorem Row.n_at (h : Row w b T (hsL s)) : w.cell? ⟨b, 8, none⟩ = some (.int .u64 s.n) := h.cell 8
theorem Row.tail_at (h : Row w b T (hsL s)) : w.rangeAt b 9 (U8 s.tail) := by
  have h1 : Row w b T ((U32 (stL s.st) ++ [.int .u64 s.n]) ++ U8 s.tail ++ []) := by simpa [hsL] using h
  exact h1.at
theorem Row.set_st (h : Row w b T (hsL s)) (r : St) : Row (w.setCells b 0 (U32 (stL r))) b T (hsL ⟨r, s.n, s.tail⟩) :=
  Row.setCells (U32 (stL r)) (U32 (stL s.st)) [] (.int .u64 s.n :: U8 s.tail) w h rfl
theorem Row.set_tail (h : Row w b T (hsL s)) (t : List Int) (ht : s.tail.length = t.length) : Row (w.setCells b 9 (U8 t)) b T (hsL ⟨s.st, s.n, t⟩) := by
  have h1 : Row w b T ((U32 (stL s.st) ++ [.int .u64 s.n]) ++ U8 s.tail ++ []) := by simpa [hsL] using h
  have h2 := Row.setCells (U8 t) (U8 s.tail) (U32 (stL s.st) ++ [.int .u64 s.n]) [] w h1 (by simp [U8, ht])
  rw [show (U32 (stL s.st) ++ [Value.int .u64 s.n]).length = 9 from rfl] at h2
  simpa [hsL] using h2
theorem Row.lay_tail (h : Row w b T (hsL s)) (k : Nat) (c : List Int) (hk : k + c.length ≤ s.tail.length) : Row (w.setCells b (9 + k) (U8 c)) b T (hsL ⟨s.st, s.n, lay s.tail k c⟩) := by
  have e : s.tail = s.tail.take k ++ (s.tail.drop k).take c.length ++ s.tail.drop (k + c.length) := by
    rw [List.append_assoc, ← List.drop_drop, List.take_append_drop, List.take_append_drop]
  have h1 : Row w b T ((U32 (stL s.st) ++ [.int .u64 s.n] ++ U8 (s.tail.take k)) ++ U8 ((s.tail.drop k).take c.length) ++ U8 (s.tail.drop (k + c.length))) := by
    have h' := h
    unfold hsL at h'
    rw [e] at h'
    simpa [U8] using h'
  have h2 := Row.setCells (U8 c) (U8 ((s.tail.drop k).take c.length)) (U32 (stL s.st) ++ [.int .u64 s.n] ++ U8 (s.tail.take k)) (U8 (s.tail.drop (k + c.length))) w h1 (by simp [U8]; omega)
  have hl : (U32 (stL s.st) ++ [Value.int .u64 s.n] ++ U8 (s.tail.take k)).length = 9 + k := by simp [U8, stL_len]; omega
  rw [hl] at h2
  simpa [hsL, lay, U8] using h2
end
theorem process_row (s : St) (bs : List Int) (w : World) (hb : Bytes bs) (hs : StR s) (hK : KC w) : Calls Tryz.prog 127 #[.agg (U32 (stL s)).toArray, .agg (U8 bs).toArray] w fun e w' => e = .returned (.agg (U32 (stL (blockS s bs))).toArray) ∧ Below w.heap.size w w' := process_any s bs w hb hs hK
theorem build32 (s : St) (n : Int) (w : World) : (Instr.build 154 #[(0, .agg (U32 (stL s)).toArray), (1, .int .u64 n)]).run Tryz.prog w = .ok (.agg (hsL ⟨s, n, Z64⟩).toArray) w := by kernel_rfl
theorem build30 (w : World) : (Instr.build 152 #[]).run Tryz.prog w = .ok (.agg (U8 Z64).toArray) w := by kernel_rfl
def ZS : HS := ⟨⟨0, 0, 0, 0, 0, 0, 0, 0⟩, 0, Z64⟩
theorem zero32 : (Tryz.prog.info? 154).bind (·.zero) = some (.agg (hsL ZS).toArray) := by kernel_rfl
def cutA (A : Option Addr) (cap l : Nat) : Option Addr := if cap = l then A else A.map (·.add l)
theorem Bs.cutA {w : World} {B : Nat} {A : Option Addr} {xs : List Int} (h : Bs w B A xs) {k cap : Nat} (hk : k ≤ xs.length) (hc : xs.length ≤ cap) : Bs w B (cutA A cap k) (xs.drop k) := h.drop hk hc
theorem exec_slice22 {ρ : Operand → Value} {op : Oper} {x lo : Operand} {A : Option Addr} {len cap l : Nat} {w : World} (ho : op.op = .slice 31 x (some lo) none none) (hx : ρ x = .slice A len cap) (hlo : ρ lo = .int .i64 (l : Nat)) (h1 : l ≤ len) :
    (execOp ρ op).run Tryz.prog w = .ok (.value (.slice (cutA A cap l) (len - l) (cap - l))) w := by
  have h := run_slice_l (P := Tryz.prog) w 31 A len cap (by kernel_rfl) .i64 (l : Int) (by omega) (by omega)
  have hs : (sizeOf (Tryz.prog.elem 31)).run Tryz.prog w = .ok 1 w := by kernel_rfl
  unfold execOp
  simp only [ho, hx, hlo, Option.map_some, Option.map_none, run_sliceAt_slice w 31 _ _ _ _ (show Tryz.prog.underlying 31 = some (.slice (Tryz.prog.elem 31)) by kernel_rfl), Sem.run_bind, h, hs, Result.andThen_ok, sliced, Int.toNat_natCast, Nat.mul_one, Sem.run_pure]
  rfl
theorem hsL_one (s : HS) : (hsL s).toArray.all (·.oneCell') = true := all_oneCell_toArray (fun v hv => by
  unfold hsL at hv
  rcases List.mem_append.1 hv with h | h
  · obtain ⟨x, _, rfl⟩ := List.mem_map.1 h; rfl
  · rcases List.mem_cons.1 h with rfl | h
    · rfl
    · obtain ⟨x, _, rfl⟩ := List.mem_map.1 h; rfl)
/-- A state of the function's own at block b, another at b + 1. -/
structure F0 (w : World) (s : HS) (v2 v4 : Value) (wx : World) : Prop where
  p2 : v2 = .pointer (some ⟨w.heap.size, 0, none⟩)
  p4 : v4 = .pointer (some ⟨w.heap.size + 1, 0, none⟩)
  r2 : Row wx w.heap.size 154 (hsL s)
  r4 : Row wx (w.heap.size + 1) 154 (hsL ZS)
  sz : wx.heap.size = w.heap.size + 1 + 1
  bw : Below w.heap.size w wx
/-- Its three states. -/
structure F1 (w : World) (s t : HS) (wx : World) : Prop where
  r2 : Row wx w.heap.size 154 (hsL s)
  r4 : Row wx (w.heap.size + 1) 154 (hsL ZS)
  r5 : Row wx (w.heap.size + 1 + 1) 154 (hsL t)
  bw : Below w.heap.size w wx
def F1R (w : World) (s t : HS) (v : Value) (wx : World) : Prop := v = .pointer (some ⟨w.heap.size + 1 + 1, 0, none⟩) ∧ F1 w s t wx
def SameW (x : Value) (w : World) (v : Value) (wx : World) : Prop := v = x ∧ w = wx
/-- What holds at the loop's head: k bytes are fed, r are left. -/
structure FL (w : World) (s : HS) (bs : List Int) (m k r : Nat) (A : Option Addr) (c : Nat) (wr : World) : Prop where
  kr : k + r = m
  rc : r ≤ c
  by_ : Bs wr w.heap.size A (bs.drop k)
  r4 : Row wr (w.heap.size + 1) 154 (hsL ZS)
  r5 : Row wr (w.heap.size + 1 + 1) 154 (hsL ⟨(atK s bs k).st, (s.n + m) % 18446744073709551616, (atK s bs k).tail⟩)
  bw : Below w.heap.size w wr
def FLR (w : World) (s : HS) (bs : List Int) (m : Nat) (v1 v6 : Value) (wr : World) : Prop := ∃ k r A c, v1 = .slice A r c ∧ v6 = .int .i64 (heldN (atK s bs k).n) ∧ FL w s bs m k r A c wr
/-- Behind the copy of q bytes. -/
structure HFM (w : World) (s : HS) (bs : List Int) (m k r h q : Nat) (A : Option Addr) (c : Nat) (wr : World) : Prop where
  r4 : Row wr (w.heap.size + 1) 154 (hsL ZS)
  r5 : Row wr (w.heap.size + 1 + 1) 154 (hsL ⟨(atK s bs k).st, (s.n + m) % 18446744073709551616, lay (atK s bs k).tail h ((bs.drop k).take q)⟩)
  by_ : Bs wr w.heap.size A (bs.drop k)
  bw : Below w.heap.size w wr
def slLen : Value → Nat
  | .slice _ n _ => n
  | _ => 0
theorem canon_lay (s : HS) (ht : s.tail.length = 64) : lay Z64 0 ((s.tail.take (heldN s.n)).take (heldN s.n)) = (canonH s).tail := by
  have hl := heldN_lt s.n
  have e : ((s.tail.take (heldN s.n)).take (heldN s.n)) = s.tail.take (heldN s.n) := by rw [List.take_take, Nat.min_self]
  have e2 : (s.tail.take (heldN s.n)).length = heldN s.n := by rw [List.length_take]; omega
  unfold lay canonH Z64
  rw [e, e2, Nat.zero_add, List.drop_replicate]
  rfl
set_option maxRecDepth 100000 in
set_option maxHeartbeats 300000 in
theorem feed_any (s : HS) (A : Option Addr) (m c : Nat) (bs : List Int) (w : World) (hs : HSR s) (hb : By bs) (hA : Bs w w.heap.size A bs) (hm : bs.length = m) (hc : m ≤ c) (hM : m ≤ 16000000) (hK : KC w) :
    Calls Tryz.prog 95 #[hsV s, .slice A m c] w fun e w' => e = .returned (hsV (feedH s bs)) ∧ Below w.heap.size w w' := by
  have SO := Lib.hid hs; have HB := Lib.hid hb; have HA := Lib.hid hA; have HM := Lib.hid hm; have HK := Lib.hid hK
  have n0 := hs.2.1.1
  have n1 := hs.2.1.2
  have CT := Lib.hid (show (canonH s).tail = s.tail.take (heldN s.n) ++ List.replicate (64 - heldN s.n) 0 from rfl)
  clear hs hb hA hm hK
  unfold hsV
  go_enter Tryz.func95, Tryz.ntmps95
  go_upto_region 0 with fail
  go_cut [2, 4] (fun v2 v4 wx => F0 w s v2 v4 wx)
  case first =>
    go_wp2_with (with_reducible refine wpList_value rfl _ _ (exec_alloc rfl zero32) ?_)
    go_meet
    refine ⟨rfl, by rw [World.size_alloc], ?_, ?_, by simp, ?_⟩
    · exact (Row.new w 154 (hsL s)).alloc _
    · have h := Row.new (w.alloc (.cells (hsL s).toArray 154)) 154 (hsL ZS)
      rw [World.size_alloc] at h
      exact h
    · exact ((Below.refl _ _).alloc (Nat.le_refl _) _).alloc (by simp) _
  case rest =>
    obtain ⟨rfl, rfl, r2, r4, sz, bw⟩ := hcut
    obtain ⟨w1, rfl⟩ : ∃ w1 : World, w1 = wc := ⟨_, rfl⟩
    have hst := Lib.hid r2.st_at
    have hn := r2.n_at
    have R2 := Lib.hid r2; have R4 := Lib.hid r4; have BW := Lib.hid bw
    clear r2 r4 bw
    go_upto_region 1 with fail
    go_cut [5] (fun v5 wx => F1R w s ⟨s.st, (s.n + m) % 18446744073709551616, Z64⟩ v5 wx)
    case first =>
      go_wp2_with (first
        | (with_reducible refine wpList_value rfl _ _ (exec_alloc rfl zero32) ?_)
        | (with_reducible refine wpList_load_mid rfl 150 (.tmp 8) rfl w.heap.size 0 rfl (U32 (stL s.st)) _ hst.out Tryz.underlying150 ?ld ?li ?_)
        | (with_reducible refine wpList_value rfl _ _ (exec_build (vals := #[(0, .agg (U32 (stL s.st)).toArray), (1, .int .u64 ((s.n + m) % 18446744073709551616))]) rfl ?hp (build32 _ _ _)) ?_)
        | (with_reducible refine wpList_store_mid rfl 154 (.tmp 5) (.tmp 16) rfl _ _ _ rfl rfl ?ht ?hi ?h1 ?_))
      case ld => rfl
      case li => exact info28
      case hp =>
        rw [← IntKind.wrap_u64]
        simp only [List.map_toArray, List.map_cons, List.map_nil]
        rfl
      case ht => exact (Row.new w1 154 (hsL ZS)).there
      case hi => exact info32
      case h1 => exact hsL_one _
      go_meet
      refine ⟨by rw [sz], ?_⟩
      have hr := (Row.new w1 154 (hsL ZS)).setAll (hsL ⟨s.st, (s.n + m) % 18446744073709551616, Z64⟩) rfl
      rw [sz] at hr ⊢
      exact ⟨Row.setCellsOther (by omega) _ _ _ (R2.out.alloc _), Row.setCellsOther (by omega) _ _ _ (R4.out.alloc _), hr, below_setCells (by omega) _ _ _ (BW.out.alloc (by rw [sz]; omega) _)⟩
    case rest =>
      clear sz hst hn R2 R4 BW
      obtain ⟨rfl, F⟩ := hcut
      obtain ⟨w2, rfl⟩ : ∃ w2 : World, w2 = wc := ⟨_, rfl⟩
      have hn := F.r2.n_at
      have FF := Lib.hid F
      clear F w1
      go_upto_region 2 with fail
      go_cut [6] (fun v wx => SameW (.int .i64 (heldN s.n)) w2 v wx)
      case first =>
        go_wp2_with fail
        go_meet
        exact ⟨by rw [heldN_cast], rfl⟩
      case rest =>
        clear hn
        obtain ⟨rfl, rfl⟩ := hcut
        have hl : heldN s.n < 64 := heldN_lt s.n
        have hl2 : heldN s.n ≤ 64 := by omega
        have hl3 : ((heldN s.n : Nat) : Int) ≤ 64 := by omega
        have hl4 : (0 : Int) ≤ ((heldN s.n : Nat) : Int) := by omega
        have tl : s.tail.length = 64 := SO.out.2.2.1
        have hcp := run_copyB (w := w2.drew) (ty := 3) (b := w.heap.size + 1 + 1) (o := 9) (dLen := heldN s.n) (dCap := 64) (B := w.heap.size + 1) (sLen := heldN s.n) (sCap := 64) (A := some ⟨w.heap.size, 9, none⟩) (xs := s.tail.take (heldN s.n)) (by simp; omega)
          (fun _ => ⟨_, rfl, by simp, fun j x hx => by
            rw [Addr.add_mid]
            refine FF.out.r2.tail_at j _ (U8_get ?_)
            rw [List.getElem?_take] at hx
            split at hx
            · exact hx
            · cases hx⟩) (FF.out.r5.drew.there_at (by rw [hsL_len rfl]; omega))
        have KEY := Lib.hid (show F1 w s ⟨s.st, (s.n + m) % 18446744073709551616, (canonH s).tail⟩ (w2.drew.setCells (w.heap.size + 1 + 1) 9 (U8 ((s.tail.take (heldN s.n)).take (heldN s.n)))) from by
          have h5 := FF.out.r5.drew.lay_tail 0 ((s.tail.take (heldN s.n)).take (heldN s.n)) (by simp [Z64]; omega)
          dsimp only at h5
          rw [canon_lay s tl] at h5
          exact ⟨Row.setCellsOther (by omega) _ _ _ FF.out.r2.drew, Row.setCellsOther (by omega) _ _ _ FF.out.r4.drew, h5, below_setCells (by omega) _ _ _ FF.out.bw.drew⟩)
        generalize U8 ((s.tail.take (heldN s.n)).take (heldN s.n)) = CB at *
        have ST := Lib.hid (show Value.int .i64 (heldN s.n : Nat) = Value.int .i64 (heldN (atK s bs 0).n) from rfl)
        clear tl
        generalize heldN s.n = h at *
        go_upto_region 3 with fail
        go_cut [27] (fun _ wx => F1 w s ⟨s.st, (s.n + m) % 18446744073709551616, (canonH s).tail⟩ wx)
        case first =>
          go_region
          go_wp2_with fail
          go_meet
          exact KEY.out
        case rest =>
          clear hcp KEY FF hl hl2 hl3 hl4 CT
          obtain ⟨w3, rfl⟩ : ∃ w3 : World, w3 = wc := ⟨_, rfl⟩
          have FF := Lib.hid hcut
          clear hcut w2
          go_wp2_with fail
          go_loopw [1, 6] (fun v1 v6 wr => FLR w s bs m v1 v6 wr) (fun v1 _ _ => slLen v1)
          case atStart => exact ⟨0, m, A, c, rfl, ST.out, by omega, hc, (HA.out).below FF.out.bw, FF.out.r4, FF.out.r5, FF.out.bw⟩
          case round =>
            clear FF ST
            obtain ⟨k, r, A', c', rfl, rfl, FL0⟩ := hrel
            have F := Lib.hid FL0
            have tr := atK_range SO.out HB.out k
            have tn := tr.2.1
            have tl := tr.2.2.1
            have TR := Lib.hid tr
            have rc := FL0.rc
            have kr := FL0.kr
            have hbl : (bs.drop k).length = r := by rw [List.length_drop, HM.out]; omega
            have hl : heldN (atK s bs k).n < 64 := heldN_lt _
            obtain ⟨h, hh⟩ : ∃ h, h = heldN (atK s bs k).n := ⟨_, rfl⟩
            obtain ⟨q, hq⟩ : ∃ q, q = Nat.min r (64 - h) := ⟨_, rfl⟩
            have hcp := run_copyB (w := wr) (ty := 3) (b := w.heap.size + 1 + 1) (o := 9 + h) (dLen := 64 - h) (dCap := 64 - h) (B := w.heap.size) (sLen := r) (sCap := c') (A := A') (xs := bs.drop k) hbl FL0.by_
              (FL0.r5.there_at (by rw [hsL_len (show (HS.mk (atK s bs k).st ((s.n + m) % 18446744073709551616) (atK s bs k).tail).tail.length = 64 from tl)]; omega))
            have hq1 : q ≤ r := hq ▸ Nat.min_le_left _ _
            have hq2 : q ≤ 64 - h := hq ▸ Nat.min_le_right _ _
            have hq3 : (bs.drop k).take (64 - h) = (bs.drop k).take q := by
              rw [hq]
              rcases Nat.le_total r (64 - h) with h1 | h1
              · rw [show Nat.min r (64 - h) = r from Nat.min_eq_left h1, List.take_of_length_le (by omega), List.take_of_length_le (by omega)]
              · rw [show Nat.min r (64 - h) = 64 - h from Nat.min_eq_right h1]
            have hql : ((bs.drop k).take q).length = q := by rw [List.length_take]; omega
            rw [← hq, hq3] at hcp
            have hrow := FL0.r5.lay_tail h ((bs.drop k).take q) (by dsimp only; rw [hql]; omega)
            dsimp only at hrow
            have K1 := Lib.hid (show HFM w s bs m k r h q A' c' (wr.setCells (w.heap.size + 1 + 1) (9 + h) (U8 ((bs.drop k).take q))) from
              ⟨Row.setCellsOther (by omega) _ _ _ FL0.r4, hrow, FL0.by_.below (below_setCells (by omega) _ _ _ (Below.refl _ _)), below_setCells (by omega) _ _ _ FL0.bw⟩)
            have CP := Lib.hid hcp
            clear hcp FL0 tr hrow F
            rw [← hh]
            have HH := Lib.hid hh
            have HQ := Lib.hid hq
            generalize U8 ((bs.drop k).take q) = CB at *
            have hl2 : h < 64 := by omega
            have hl3 : ((h : Nat) : Int) ≤ 64 := by omega
            have hl4 : ¬ 64 = h := by omega
            have hl5 : h ≤ 64 := by omega
            have hq4 : (q : Int) ≤ (r : Int) := by omega
            have rM : r ≤ 16000000 := by omega
            clear hl hq3 hql hbl tn tl hh hq
            go_upto_region 4 with fail
            go_cut [7] (fun v wx => v = .int .i64 q ∧ HFM w s bs m k r h q A' c' wx)
            case first =>
              go_wp2_with (with_reducible refine wpList_value rfl _ _ (exec_copy (vd := .slice (some ⟨w.heap.size + 1 + 1, 9 + h, none⟩) (64 - h) (64 - h)) (vs := .slice A' r c') rfl rfl rfl CP.out) ?_)
              go_meet
              exact ⟨rfl, K1.out⟩
            case rest =>
              clear CP K1
              obtain ⟨rfl, F1⟩ := hcut
              obtain ⟨w4, rfl⟩ : ∃ w4 : World, w4 = wc := ⟨_, rfl⟩
              have F := Lib.hid F1
              clear F1 wr
              have hs1 : (w.heap.size + 1 + 1) = w.heap.size + 1 + 1 := rfl
              clear hs1
              by_cases hlt : r < 64 - h
              · obtain rfl : q = r := HQ.out.trans (Nat.min_eq_left (by omega))
                have hd : ((h : Nat) : Int) + ((q : Nat) : Int) < 64 := by omega
                have hd2 : decide (((h : Nat) : Int) + ((q : Nat) : Int) < 64) = true := by simp; omega
                have LEN := Lib.hid (show (hsL ⟨(atK s bs k).st, (s.n + m) % 18446744073709551616, lay (atK s bs k).tail h ((bs.drop k).take q)⟩).length = 73 from
                  hsL_len (lay_bytes TR.out.2.2 (fun x hx => HB.out x (List.mem_of_mem_drop (List.mem_of_mem_take hx))) (by rw [List.length_take]; omega)).1)
                have RES := Lib.hid (show feedH s bs = ⟨(atK s bs k).st, (s.n + m) % 18446744073709551616, lay (atK s bs k).tail h ((bs.drop k).take q)⟩ by
                  rw [HH.out, feed_done SO.out HB.out (by rw [HM.out]; exact kr) (by rw [← HH.out]; omega), kr])
                have ONE := Lib.hid (hsL_one ⟨(atK s bs k).st, (s.n + m) % 18446744073709551616, lay (atK s bs k).tail h ((bs.drop k).take q)⟩)
                have R5 := Lib.hid F.out.r5.range
                have R4 := Lib.hid F.out.r4.there
                have KEY := Lib.hid (show Row (w4.setCells (w.heap.size + 1) 0 (hsL ⟨(atK s bs k).st, (s.n + m) % 18446744073709551616, lay (atK s bs k).tail h ((bs.drop k).take q)⟩)) (w.heap.size + 1) 154 _ ∧ Below w.heap.size w (w4.setCells (w.heap.size + 1) 0 (hsL ⟨(atK s bs k).st, (s.n + m) % 18446744073709551616, lay (atK s bs k).tail h ((bs.drop k).take q)⟩)) from
                  ⟨F.out.r4.setAll _ (by rw [LEN.out]; rfl), below_setCells (by omega) _ _ _ F.out.bw⟩)
                clear HB HA HM HK TR F HH HQ SO kr
                have RES2 := Lib.hid (show hsL (feedH s bs) = _ from congrArg hsL RES.out)
                clear RES
                generalize hsL ⟨(atK s bs k).st, (s.n + m) % 18446744073709551616, lay (atK s bs k).tail h ((bs.drop k).take q)⟩ = L at *
                go_wp2_with (first
                  | (with_reducible refine wpList_value rfl _ _ (exec_slice22 rfl rfl rfl hq1) ?_)
                  | (with_reducible refine wpList_load_mid rfl 154 (.tmp 5) rfl (w.heap.size + 1 + 1) 0 rfl L _ R5.out Tryz.underlying154 ?ld ?li ?_)
                  | (with_reducible refine wpList_store_mid rfl 154 (.tmp 4) (.tmp 41) rfl (w.heap.size + 1) 0 _ rfl rfl ?ht ?hi ?h1 ?_))
                case ld => rfl
                case li => rw [LEN.out]; exact info32
                case ht => rw [show L.toArray.size = 73 from LEN.out]; exact R4.out
                case hi => rw [show L.toArray.size = 73 from LEN.out]; exact info32
                case h1 => exact ONE.out
                refine bodyPost_ret (results_cell rfl _ _ _ (w.heap.size + 1) L _ rfl KEY.out.1.range Tryz.underlying154 rfl (by rw [LEN.out]; exact info32)) rfl ⟨?_, KEY.out.2⟩
                rw [← RES2.out]
              · have hq5 : q = 64 - h := HQ.out.trans (Nat.min_eq_right (by omega))
                have hd : ¬ ((h : Nat) : Int) + ((q : Nat) : Int) < 64 := by omega
                have hd2 : decide (((h : Nat) : Int) + ((q : Nat) : Int) < 64) = false := by simp; omega
                have hq6 : 0 < q := by omega
                have hq7 : h + q = 64 := by omega
                have TB := Lib.hid (show Bytes (lay (atK s bs k).tail h ((bs.drop k).take q)) from lay_bytes TR.out.2.2 (fun x hx => HB.out x (List.mem_of_mem_drop (List.mem_of_mem_take hx))) (by rw [List.length_take]; omega))
                have MORE := Lib.hid (show atK s bs (k + q) = ⟨blockS (atK s bs k).st (lay (atK s bs k).tail h ((bs.drop k).take q)), (s.n + (k + q : Nat)) % 18446744073709551616, Z64⟩ ∧ heldN (atK s bs (k + q)).n = 0 by
                  rw [HH.out]
                  exact feed_more SO.out HB.out (by rw [HM.out]; omega) (by rw [← HH.out]; omega))
                have HQ7 := Lib.hid hq7
                have R0 := Lib.hid F.out.r5.st_at
                have R9 := Lib.hid F.out.r5.tail_at
                have KB := Lib.hid (HK.out.below F.out.bw)
                have G4 := Lib.hid F.out.r4
                have G5 := Lib.hid F.out.r5
                have GB := Lib.hid F.out.by_
                have GW := Lib.hid F.out.bw
                have SR := Lib.hid TR.out.1
                clear HQ hq5 hq7 HH hl5 F
                generalize lay (atK s bs k).tail h ((bs.drop k).take q) = T at *
                generalize (atK s bs k).st = S at *
                dsimp only at R0 R9
                go_wp2_with (first
                  | (with_reducible refine wpList_value rfl _ _ (exec_slice22 rfl rfl rfl hq1) ?_)
                  | (with_reducible refine wpList_load_mid rfl 150 (.tmp 42) rfl (w.heap.size + 1 + 1) 0 rfl (U32 (stL S)) _ R0.out Tryz.underlying150 ?ld ?li ?_)
                  | (with_reducible refine wpList_load_mid rfl 152 (.tmp 44) rfl (w.heap.size + 1 + 1) 9 rfl (U8 T) _ R9.out Tryz.underlying152 ?ld2 ?li2 ?_))
                case ld => rfl
                case li => first | exact info28b | exact info28
                case ld2 => rfl
                case li2 => rw [show (U8 T).length = 64 by simp [U8, TB.out.1]]; first | exact info30b | exact info30
                refine (process_row S T w4 TB.out SR.out KB.out).mono ?_
                rintro e w5 ⟨rfl, hb5⟩
                have F5 := Lib.hid (show Row w5 (w.heap.size + 1) 154 (hsL ZS) ∧ Row w5 (w.heap.size + 1 + 1) 154 (hsL ⟨S, (s.n + m) % 18446744073709551616, T⟩) ∧ Bs w5 w.heap.size A' (bs.drop k) ∧ Below w.heap.size w w5 from
                  ⟨G4.out.below hb5, G5.out.below hb5, GB.out.below (hb5.mono GW.out.size), GW.out.trans (hb5.mono GW.out.size)⟩)
                clear hb5 G4 G5 GB GW
                have R6 := Lib.hid (F5.out.2.1.set_st (blockS S T))
                have R7 := Lib.hid (R6.out.set_tail Z64 (by dsimp only; rw [TB.out.1]; rfl))
                have TH1 := Lib.hid (F5.out.2.1.there_at (o := 0) (n := 8) (by rw [hsL_len TB.out.1]; omega))
                have TH2 := Lib.hid (R6.out.there_at (o := 9) (n := 64) (by rw [hsL_len TB.out.1]; omega))
                go_wp2_with (first
                  | (with_reducible refine wpList_value rfl _ _ (exec_build (vals := #[]) rfl ?hp (build30 _)) ?_)
                  | (with_reducible refine wpList_store_mid rfl 150 (.tmp 47) (.tmp 46) rfl (w.heap.size + 1 + 1) 0 _ rfl rfl ?ht ?hi ?h1 ?_)
                  | (with_reducible refine wpList_store_mid rfl 152 (.tmp 49) (.tmp 48) rfl (w.heap.size + 1 + 1) 9 _ rfl rfl ?ht2 ?hi2 ?h12 ?_))
                case ht => exact TH1.out
                case hi => first | exact info28 | exact info28b
                case h1 => exact U32_one _
                case hp => simp only [List.map_toArray, List.map_nil]
                case ht2 => exact TH2.out
                case hi2 => first | exact info30 | exact info30b
                case h12 => exact U8_one _
                refine ⟨⟨k + q, r - q, cutA A' c' q, c' - q, rfl, by rw [MORE.out.2]; rfl, by omega, by omega, ?_, ?_, ?_, ?_⟩, by simp only [slLen]; omega⟩
                · have hb := F5.out.2.2.1.cutA (k := q) (cap := c') (by rw [List.length_drop, HM.out]; omega) (by rw [List.length_drop, HM.out]; omega)
                  rw [List.drop_drop] at hb
                  exact hb.below (below_setCells (by omega) _ _ _ (below_setCells (by omega) _ _ _ (Below.refl _ _)))
                · exact Row.setCellsOther (by omega) _ _ _ (Row.setCellsOther (by omega) _ _ _ F5.out.1)
                · rw [MORE.out.1]
                  exact R7.out
                · exact below_setCells (by omega) _ _ _ (below_setCells (by omega) _ _ _ F5.out.2.2.2)
end Go.Proofs.YtfhbpgickkibmaaGreatDoor
namespace Go.Proofs.YtfhbpgickkibmaaGreatDoor
open Go.RowKit

def startH : HS := ⟨H0, 0, Z64⟩
def zN (n : Int) : Nat := (119 - heldN n) % 64
def lenAt (n : Int) (i : Nat) : Int := (8 * n) % 18446744073709551616 / 2 ^ (56 - 8 * i) % 256
def lenB (n : Int) : List Int := (List.range 8).map (lenAt n)
def padH (n : Int) : List Int := 128 :: (List.replicate (zN n) 0 ++ lenB n)
def outAt (s : St) (i : Nat) : Int := (stL s).getD (i / 4) 0 / 2 ^ (24 - 8 * (i % 4)) % 256
def outH (s : St) : List Int := (List.range 32).map (outAt s)
def finH (s : HS) : List Int := outH (feedH s (padH s.n)).st
def sumH (bs : List Int) : List Int := finH (feedH startH bs)
theorem startH_range : HSR startH := ⟨by simp [StR, startH, H0], ⟨by decide, by decide⟩, Z64_bytes⟩
theorem zN_lt (n : Int) : zN n < 64 := by unfold zN; omega
theorem lenB_len (n : Int) : (lenB n).length = 8 := by simp [lenB]
theorem padH_len (n : Int) : (padH n).length = 1 + zN n + 8 := by simp [padH, lenB]; omega
theorem padH_by (n : Int) : By (padH n) := fun x hx => by
  unfold padH at hx
  rcases List.mem_cons.1 hx with rfl | hx
  · omega
  · rcases List.mem_append.1 hx with hx | hx
    · obtain ⟨_, rfl⟩ := List.mem_replicate.1 hx; omega
    · obtain ⟨i, _, rfl⟩ := List.mem_map.1 hx
      unfold lenAt; omega
theorem outH_by (s : St) : By (outH s) := fun x hx => by
  obtain ⟨i, _, rfl⟩ := List.mem_map.1 hx
  unfold outAt; omega
theorem outH_len (s : St) : (outH s).length = 32 := by simp [outH]
theorem build28 (w : World) : (Instr.build 150 #[(0, .int .u32 1779033703), (1, .int .u32 3144134277), (2, .int .u32 1013904242), (3, .int .u32 2773480762), (4, .int .u32 1359893119), (5, .int .u32 2600822924), (6, .int .u32 528734635), (7, .int .u32 1541459225)]).run Tryz.prog w = .ok (.agg (U32 (stL H0)).toArray) w := by kernel_rfl
theorem build32s (w : World) : (Instr.build 154 #[(0, .agg (U32 (stL H0)).toArray)]).run Tryz.prog w = .ok (.agg (hsL startH).toArray) w := by kernel_rfl
set_option maxRecDepth 100000 in
theorem start_any (w : World) : Calls Tryz.prog 96 #[] w fun e w' => e = .returned (hsV startH) ∧ Below w.heap.size w w' := by
  go_enter Tryz.func96, Tryz.ntmps96
  have TH := Lib.hid (Row.new w 154 (hsL ZS)).there
  go_wp2_with (first
    | (with_reducible refine wpList_value rfl _ _ (exec_alloc rfl zero32) ?_)
    | (with_reducible refine wpList_value rfl _ _ (exec_build (vals := #[(0, .int .u32 1779033703), (1, .int .u32 3144134277), (2, .int .u32 1013904242), (3, .int .u32 2773480762), (4, .int .u32 1359893119), (5, .int .u32 2600822924), (6, .int .u32 528734635), (7, .int .u32 1541459225)]) rfl ?hp (build28 _)) ?_)
    | (with_reducible refine wpList_value rfl _ _ (exec_build (vals := #[(0, .agg (U32 (stL H0)).toArray)]) rfl ?hp2 (build32s _)) ?_)
    | (with_reducible refine wpList_store_mid rfl 154 _ _ rfl w.heap.size 0 _ rfl rfl ?ht ?hi ?h1 ?_))
  case hp => simp only [List.map_toArray, List.map_cons, List.map_nil]; rfl
  case ht => exact TH.out
  case hi => exact info32
  case h1 => exact hsL_one _
  have KEY := (Row.new w 154 (hsL ZS)).setAll (hsL startH) rfl
  exact bodyPost_ret (results_cell rfl _ _ _ w.heap.size (hsL startH) _ rfl KEY.range Tryz.underlying154 rfl info32) rfl ⟨rfl, below_setCells (Nat.le_refl _) _ _ _ ((Below.refl _ _).alloc (Nat.le_refl _) _)⟩
theorem zero24 : (Tryz.prog.info? 122).bind (·.zero) = some (.agg (U8 (List.replicate 32 0)).toArray) := by kernel_rfl
/-- The padding with i bytes of the length laid. -/
def padTo (n : Int) (i : Nat) : List Int := 128 :: (List.replicate (zN n) 0 ++ ((lenB n).take i ++ List.replicate (8 - i) 0))
theorem padTo_len (n : Int) {i : Nat} (hi : i ≤ 8) : (padTo n i).length = 1 + zN n + 8 := by simp [padTo, lenB_len]; omega
theorem padTo_set (n : Int) {i : Nat} (hi : i < 8) : (padTo n i).set (1 + zN n + i) (lenAt n i) = padTo n (i + 1) := by
  have e1 : (lenB n).take (i + 1) = (lenB n).take i ++ [lenAt n i] := by
    rw [List.take_succ_eq_append_getElem (by rw [lenB_len]; exact hi)]
    simp [lenB]
  have e2 : List.replicate (8 - i) (0 : Int) = 0 :: List.replicate (8 - (i + 1)) 0 := by
    rw [show 8 - i = (8 - (i + 1)) + 1 by omega, List.replicate_succ]
  unfold padTo
  rw [e1, e2, show 1 + zN n + i = (zN n + i) + 1 by omega, List.set_cons_succ, List.set_append_right _ _ (by simp)]
  rw [List.length_replicate, Nat.add_sub_cancel_left, List.set_append_right _ _ (by rw [List.length_take, lenB_len]; omega)]
  rw [List.length_take, lenB_len, Nat.min_eq_left (by omega), Nat.sub_self, List.set_cons_zero]
  simp
theorem padTo_zero (n : Int) : padTo n 0 = 128 :: List.replicate (zN n + 8) 0 := by
  unfold padTo
  rw [List.take_zero, List.nil_append, List.replicate_append_replicate]
theorem padTo_all (n : Int) : padTo n 8 = padH n := by
  unfold padTo padH
  rw [List.take_of_length_le (by rw [lenB_len]; omega)]
  simp
structure N0 (w : World) (s : HS) (v1 v2 : Value) (wx : World) : Prop where
  p1 : v1 = .pointer (some ⟨w.heap.size, 0, none⟩)
  p2 : v2 = .pointer (some ⟨w.heap.size + 1, 0, none⟩)
  r1 : Row wx w.heap.size 154 (hsL s)
  r2 : Row wx (w.heap.size + 1) 122 (U8 (List.replicate 32 0))
  sz : wx.heap.size = w.heap.size + 1 + 1
  bw : Below w.heap.size w wx
structure N2 (w : World) (s : HS) (l : List Int) (wx : World) : Prop where
  r1 : Row wx w.heap.size 154 (hsL s)
  r2 : Row wx (w.heap.size + 1) 122 (U8 (List.replicate 32 0))
  r3 : Row wx (w.heap.size + 1 + 1) 5 (U8 l)
  sz : wx.heap.size = w.heap.size + 1 + 1 + 1
  bw : Below w.heap.size w wx
def N2R (w : World) (s : HS) (l : List Int) (m : Nat) (v : Value) (wx : World) : Prop := v = .slice (some ⟨w.heap.size + 1 + 1, 0, none⟩) m m ∧ N2 w s l wx
def N1R (w : World) (s : HS) (v : Value) (wx : World) : Prop := ∃ i : Nat, i ≤ 8 ∧ v = .int .i64 i ∧ N2 w s (padTo s.n i) wx
theorem size_setCell (w : World) (p : Addr) (u : Value) : (w.setCell p u).heap.size = w.heap.size := by simp [World.setCell]
theorem N2.set {w wx : World} {s : HS} {l : List Int} (h : N2 w s l wx) (i : Nat) (x : Int) : N2 w s (l.set i x) (wx.setCell ⟨w.heap.size + 1 + 1, i, none⟩ (.int .u8 x)) :=
  ⟨h.r1.setOther (by omega) _, h.r2.setOther (by omega) _, by
    have h3 := h.r3.set i (.int .u8 x)
    unfold U8 at h3 ⊢
    rwa [← List.map_set] at h3, by rw [size_setCell, h.sz], h.bw.setCell (by simp; omega) _⟩
theorem N2.drew {w wx : World} {s : HS} {l : List Int} (h : N2 w s l wx) : N2 w s l wx.drew := ⟨h.r1, h.r2, h.r3, h.sz, h.bw.drew⟩
/-- The sum with i bytes laid. -/
def outTo (s : St) (i : Nat) : List Int := (outH s).take i ++ List.replicate (32 - i) 0
theorem outTo_len (s : St) {i : Nat} (hi : i ≤ 32) : (outTo s i).length = 32 := by simp [outTo, outH_len]; omega
theorem outTo_all (s : St) : outTo s 32 = outH s := by
  unfold outTo
  rw [List.take_of_length_le (by rw [outH_len]; omega)]
  simp
theorem outTo_set (s : St) {i : Nat} (hi : i < 32) : (outTo s i).set i (outAt s i) = outTo s (i + 1) := by
  have e1 : (outH s).take (i + 1) = (outH s).take i ++ [outAt s i] := by
    rw [List.take_succ_eq_append_getElem (by rw [outH_len]; exact hi)]
    simp [outH]
  have e2 : List.replicate (32 - i) (0 : Int) = 0 :: List.replicate (32 - (i + 1)) 0 := by
    rw [show 32 - i = (32 - (i + 1)) + 1 by omega, List.replicate_succ]
  unfold outTo
  rw [e1, e2, List.set_append_right _ _ (by rw [List.length_take, outH_len]; omega)]
  rw [List.length_take, outH_len, Nat.min_eq_left (by omega), Nat.sub_self, List.set_cons_zero]
  simp
structure N3 (w : World) (B : Nat) (t : HS) (i : Nat) (wx : World) : Prop where
  r1 : Row wx w.heap.size 154 (hsL t)
  r2 : Row wx (w.heap.size + 1) 122 (U8 (List.replicate 32 0))
  r3 : Row wx B 122 (U8 (outTo t.st i))
  bw : Below w.heap.size w wx
  lo : w.heap.size + 1 < B
def N3R (w : World) (B : Nat) (t : HS) (v : Value) (wx : World) : Prop := ∃ i : Nat, i ≤ 32 ∧ v = .int .i64 i ∧ N3 w B t i wx
theorem N3.store {w wx : World} {B : Nat} {t : HS} {i : Nat} (h : N3 w B t i wx) (hi : i < 32) : N3 w B t (i + 1) (wx.setCell ⟨B, i, none⟩ (.int .u8 (outAt t.st i))) := by
  have hlo := h.lo
  refine ⟨h.r1.setOther (by omega) _, h.r2.setOther (by omega) _, ?_, h.bw.setCell (by simp; omega) _, h.lo⟩
  have h3 := h.r3.set i (.int .u8 (outAt t.st i))
  unfold U8 at h3 ⊢
  rwa [← List.map_set, outTo_set _ hi] at h3
theorem N3.drew {w wx : World} {B : Nat} {t : HS} {i : Nat} (h : N3 w B t i wx) : N3 w B t i wx.drew := ⟨h.r1, h.r2, h.r3, h.bw.drew, h.lo⟩
theorem Row.st_cell {w : World} {b : Nat} {T : TypeId} {s : HS} (h : Row w b T (hsL s)) {k : Nat} (hk : k < 8) : w.cell? ⟨b, k, none⟩ = some (.int .u32 ((stL s.st).getD k 0)) := by
  have h1 := h.st_at k (.int .u32 ((stL s.st).getD k 0)) (U32_get (getD_some hk))
  rwa [Nat.zero_add] at h1
theorem st_range {s : St} (h : StR s) (k : Nat) : 0 ≤ (stL s).getD k 0 ∧ (stL s).getD k 0 < 4294967296 := by
  obtain ⟨h0, h1, h2, h3, h4, h5, h6, h7⟩ := h
  rcases k with _ | _ | _ | _ | _ | _ | _ | _ | k
  · exact h0
  · exact h1
  · exact h2
  · exact h3
  · exact h4
  · exact h5
  · exact h6
  · exact h7
  · exact ⟨Int.le_refl _, by simp [stL]⟩
set_option maxRecDepth 100000 in
set_option maxHeartbeats 300000 in
theorem finish_any (s : HS) (w : World) (hs : HSR s) (hK : KC w) : Calls Tryz.prog 94 #[hsV s] w fun e w' => e = .returned (.agg (U8 (finH s)).toArray) ∧ Below w.heap.size w w' := by
  have SO := Lib.hid hs; have HK := Lib.hid hK
  have n0 := hs.2.1.1
  have n1 := hs.2.1.2
  clear hs hK
  unfold hsV
  go_enter Tryz.func94, Tryz.ntmps94
  go_upto_region 0 with fail
  go_cut [1, 2] (fun v1 v2 wx => N0 w s v1 v2 wx)
  case first =>
    go_wp2_with (with_reducible refine wpList_value rfl _ _ (exec_alloc rfl zero24) ?_)
    go_meet
    refine ⟨rfl, by rw [World.size_alloc], ?_, ?_, by simp, ?_⟩
    · exact (Row.new w 154 (hsL s)).alloc _
    · have h := Row.new (w.alloc (.cells (hsL s).toArray 154)) 122 (U8 (List.replicate 32 0))
      rw [World.size_alloc] at h
      exact h
    · exact ((Below.refl _ _).alloc (Nat.le_refl _) _).alloc (by simp) _
  case rest =>
    obtain ⟨rfl, rfl, r1, r2, sz, bw⟩ := hcut
    obtain ⟨w1, rfl⟩ : ∃ w1 : World, w1 = wc := ⟨_, rfl⟩
    have hn := r1.n_at
    have R1 := Lib.hid r1; have R2 := Lib.hid r2; have BW := Lib.hid bw; have SZ := Lib.hid sz
    clear r1 r2 bw sz
    go_upto_region 1 with fail
    go_cut [3] (fun v wx => SameW (.int .i64 (heldN s.n)) w1 v wx)
    case first =>
      go_wp2_with fail
      go_meet
      exact ⟨by rw [heldN_cast], rfl⟩
    case rest =>
      obtain ⟨rfl, rfl⟩ := hcut
      have hl : heldN s.n < 64 := heldN_lt s.n
      have hl4 : (0 : Int) ≤ ((heldN s.n : Nat) : Int) := by omega
      have hl5 : ((heldN s.n : Nat) : Int) < 64 := by omega
      have ZE := Lib.hid (show (119 - ((heldN s.n : Nat) : Int)) % 64 = ((zN s.n : Nat) : Int) by
        unfold zN
        omega)
      have hz : zN s.n < 64 := zN_lt s.n
      go_upto_region 2 with fail
      go_cut [4] (fun v wx => SameW (.int .i64 (zN s.n)) w1 v wx)
      case first =>
        go_wp2_with fail
        go_meet
        exact ⟨by rw [← ZE.out], rfl⟩
      case rest =>
        clear hl hl4 hl5 ZE hn
        obtain ⟨rfl, rfl⟩ := hcut
        have PL := Lib.hid (show ∀ i, i ≤ 8 → (padTo s.n i).length = 1 + zN s.n + 8 from fun _ h => padTo_len s.n h)
        have PS := Lib.hid (show ∀ i, i < 8 → (padTo s.n i).set (1 + zN s.n + i) (lenAt s.n i) = padTo s.n (i + 1) from fun _ h => padTo_set s.n h)
        have PZ := Lib.hid (show padTo s.n 0 = 128 :: List.replicate (zN s.n + 8) 0 from padTo_zero s.n)
        have PA := Lib.hid (show (padH s.n).length = 1 + zN s.n + 8 from padH_len s.n)
        generalize zN s.n = z at *
        have z0 : (0 : Int) ≤ (z : Int) := by omega
        have z1 : (z : Int) < 64 := by omega
        go_upto_region 3 with fail
        go_cut [5] (fun v wx => N2R w s (List.replicate (1 + z + 8) 0) (1 + z + 8) v wx)
        case first =>
          go_wp2_with (with_reducible refine wpList_value rfl _ _ (exec_make (l := 1 + z + 8) (c := 1 + z + 8) rfl ?h1 ?h2 (Nat.le_refl _) (by omega)) ?_)
          case h1 => exact congrArg (Value.int .i64) (by push_cast; rfl)
          case h2 => exact congrArg (Value.int .i64) (by push_cast; rfl)
          go_meet
          refine ⟨by rw [SZ.out], R1.out.alloc _, R2.out.alloc _, ?_, by rw [World.size_alloc, SZ.out], BW.out.alloc (by rw [SZ.out]; omega) _⟩
          have h := Row.new w1 5 (U8 (List.replicate (1 + z + 8) 0))
          rw [SZ.out] at h
          exact h
        case rest =>
          clear R1 R2 BW SZ
          obtain ⟨rfl, F⟩ := hcut
          obtain ⟨w2, rfl⟩ : ∃ w2 : World, w2 = wc := ⟨_, rfl⟩
          have c0 : w2.cell? ⟨w.heap.size + 1 + 1, 0, none⟩ = some (.int .u8 0) := by
            rw [F.r3.cell 0, show 1 + z + 8 = (z + 8) + 1 by omega, List.replicate_succ]; rfl
          have f0 := F.r3.frozen 0
          have KEY := Lib.hid (show N2 w s (padTo s.n 0) (w2.setCell ⟨w.heap.size + 1 + 1, 0, none⟩ (.int .u8 128)) by
            have h := F.set 0 128
            rw [show 1 + z + 8 = (z + 8) + 1 by omega, List.replicate_succ, List.set_cons_zero, ← PZ.out] at h
            exact h)
          have FH := Lib.hid F
          clear F w1
          go_upto_region 4 with fail
          go_cut [22] (fun _ wx => N2 w s (padTo s.n 0) wx)
          case first =>
            go_wp2_with fail
            go_meet
            exact KEY.out
          case rest =>
            clear KEY FH c0 f0
            obtain ⟨w3, rfl⟩ : ∃ w3 : World, w3 = wc := ⟨_, rfl⟩
            have hn := hcut.r1.n_at
            have FF := Lib.hid hcut
            clear hcut w2
            go_upto_region 5 with fail
            go_cut [6] (fun v wx => SameW (.int .u64 (8 * s.n % 18446744073709551616)) w3 v wx)
            case first =>
              go_wp2_with fail
              go_meet
              exact ⟨by first | rfl | rw [IntKind.wrap_u64], rfl⟩
            case rest =>
              clear hn
              obtain ⟨rfl, rfl⟩ := hcut
              have LE := Lib.hid (show ∀ i, lenAt s.n i = (8 * s.n % 18446744073709551616) / 2 ^ (56 - 8 * i) % 256 from fun i => rfl)
              have L0 : 0 ≤ 8 * s.n % 18446744073709551616 := by omega
              have L1 : 8 * s.n % 18446744073709551616 < 18446744073709551616 := by omega
              generalize 8 * s.n % 18446744073709551616 = L at *
              go_wp2_with fail
              go_loopw [26] (fun v wr => N1R w s v wr) (fun v _ => 8 - (intOf v).toNat)
              case atStart => exact ⟨0, by omega, rfl, FF.out⟩
              case round =>
                clear FF
                obtain ⟨i, hi, rfl, hP⟩ := hrel
                by_cases hlt : i < 8
                · have hd : decide ((i : Int) < 8) = true := by simp; omega
                  have i0 : (0 : Int) ≤ (i : Int) := Int.natCast_nonneg _
                  have i1 : (i : Int) < 8 := by omega
                  have j0 : (0 : Int) ≤ 1 + (z : Int) + (i : Int) := by omega
                  have j1 : 1 + (z : Int) + (i : Int) < 1 + (z : Int) + 8 := by omega
                  have j2 : (0 : Int) ≤ 56 - 8 * (i : Int) := by omega
                  have j3 : 56 - 8 * (i : Int) < 64 := by omega
                  have j4 : (56 - 8 * (i : Int)).toNat = 56 - 8 * i := by omega
                  have j5 : (1 + (z : Int) + (i : Int)).toNat = 1 + z + i := by omega
                  obtain ⟨y, hy⟩ : ∃ y, (padTo s.n i)[1 + z + i]? = some y := ⟨_, getD_some (by rw [PL.out i hi]; omega)⟩
                  have hc := (hP.r3.cell (1 + z + i)).trans (U8_get hy)
                  have hf := hP.r3.frozen (1 + z + i)
                  have HP := Lib.hid hP
                  clear hP hy
                  go_wp2_with fail
                  refine ⟨⟨i + 1, by omega, by push_cast; rfl, ?_⟩, by simp [intOf]; omega⟩
                  have h := HP.out.set (1 + z + i) (lenAt s.n i)
                  rw [PS.out i hlt, LE.out i] at h
                  exact h
                · obtain rfl : i = 8 := by omega
                  clear hi hlt LE L0 L1 PL PS PZ
                  rw [padTo_all] at hP
                  have R1 := Lib.hid hP.r1.range
                  have LEN := Lib.hid (hsL_len SO.out.2.2.1)
                  have ONE := Lib.hid (hsL_one (feedH s (padH s.n)))
                  have FR := Lib.hid (feedH_range SO.out (padH_by s.n))
                  have HP := Lib.hid hP
                  clear hP
                  go_wp2_with (first
                    | (with_reducible refine wpList_load_mid rfl 154 (.tmp 1) rfl w.heap.size 0 rfl (hsL s) _ R1.out Tryz.underlying154 ?ld ?li ?_))
                  case ld => rfl
                  case li => rw [LEN.out]; exact info32
                  refine (feed_any s (some ⟨w.heap.size + 1 + 1, 0, none⟩) (1 + z + 8) (1 + z + 8) (padH s.n) wr SO.out (padH_by s.n) (fun _ => ⟨_, rfl, by have := HP.out.sz; simp; omega, fun j x hx => by
                    rw [Addr.add_mid, Nat.zero_add, HP.out.r3.cell j]
                    exact U8_get hx⟩) PA.out (Nat.le_refl _) (by omega) (HK.out.below HP.out.bw)).mono ?_
                  rintro e w5 ⟨rfl, hb5⟩
                  have OF := Lib.hid (show finH s = outH (feedH s (padH s.n)).st from rfl)
                  have RB := Lib.hid (show Row (w5.setCells w.heap.size 0 (hsL (feedH s (padH s.n)))) w.heap.size 154 (hsL (feedH s (padH s.n))) ∧ Row (w5.setCells w.heap.size 0 (hsL (feedH s (padH s.n)))) (w.heap.size + 1) 122 (U8 (List.replicate 32 0)) ∧ Below w.heap.size w (w5.setCells w.heap.size 0 (hsL (feedH s (padH s.n)))) from by
                    have b1 : Below w.heap.size w w5 := HP.out.bw.trans (hb5.mono HP.out.bw.size)
                    refine ⟨(HP.out.r1.below hb5).setAll _ ?_, Row.setCellsOther (by omega) _ _ _ (HP.out.r2.below hb5), below_setCells (Nat.le_refl _) _ _ _ b1⟩
                    rw [LEN.out, hsL_len FR.out.2.2.1])
                  have TH := Lib.hid ((HP.out.r1.below hb5).there)
                  have FLEN := Lib.hid (hsL_len FR.out.2.2.1)
                  clear hb5 HP R1 SO n0 n1
                  generalize feedH s (padH s.n) = t at *
                  go_upto_region 12 with (with_reducible refine wpList_store_mid rfl 154 (.tmp 1) (.tmp 44) rfl w.heap.size 0 _ rfl rfl ?ht ?hi ?h1 ?_)
                  case ht => rw [show (hsL t).toArray.size = 73 from FLEN.out, ← LEN.out]; exact TH.out
                  case hi => rw [show (hsL t).toArray.size = 73 from FLEN.out]; exact info32
                  case h1 => exact ONE.out
                  clear TH ONE
                  generalize w5.setCells w.heap.size 0 (hsL t) = w6 at *
                  obtain ⟨B, hB⟩ : ∃ B, B = w6.heap.size := ⟨_, rfl⟩
                  have HB := Lib.hid hB
                  clear hB
                  rw [show ∀ (a : Act) (v : Value), a.put none v = a from fun _ _ => rfl]
                  go_cut [8] (fun v wx => v = .pointer (some ⟨B, 0, none⟩) ∧ N3 w B t 0 wx)
                  case first =>
                    go_wp2_with (with_reducible refine wpList_value rfl _ _ (exec_alloc rfl zero24) ?_)
                    go_meet
                    rw [HB.out]
                    exact ⟨rfl, RB.out.1.alloc _, RB.out.2.1.alloc _, Row.new w6 122 _, RB.out.2.2.alloc RB.out.2.2.size _, RB.out.2.1.lt⟩
                  case rest =>
                    clear RB HB
                    obtain ⟨rfl, F⟩ := hcut
                    obtain ⟨w7, rfl⟩ : ∃ w7 : World, w7 = wc := ⟨_, rfl⟩
                    have FF := Lib.hid F
                    clear F w6 wr w5 w3
                    go_wp2_with fail
                    go_loopw [45] (fun v wr => N3R w B t v wr) (fun v _ => 32 - (intOf v).toNat)
                    case atStart => exact ⟨0, by omega, rfl, FF.out⟩
                    case round =>
                      clear FF
                      obtain ⟨i, hi, rfl, hP⟩ := hrel
                      by_cases hlt : i < 32
                      · have hd : decide ((i : Int) < 32) = true := by simp; omega
                        have i0 : (0 : Int) ≤ (i : Int) := Int.natCast_nonneg _
                        have i1 : (i : Int) < 32 := by omega
                        have j0 : (0 : Int) ≤ (i : Int) / 4 := by omega
                        have j1 : (i : Int) / 4 < 8 := by omega
                        have j2 : (0 : Int) ≤ 24 - 8 * ((i : Int) % 4) := by omega
                        have j3 : 24 - 8 * ((i : Int) % 4) < 32 := by omega
                        have j4 : (24 - 8 * ((i : Int) % 4)).toNat = 24 - 8 * (i % 4) := by omega
                        have j5 : ((i : Int) / 4).toNat = i / 4 := by omega
                        have hx := (hP.r1.st_cell (k := i / 4) (by omega))
                        have xr := st_range FR.out.1 (i / 4)
                        have OE := Lib.hid (show outAt t.st i = (stL t.st).getD (i / 4) 0 / 2 ^ (24 - 8 * (i % 4)) % 256 from rfl)
                        generalize (stL t.st).getD (i / 4) 0 = x at *
                        have x0 := xr.1
                        have x1 := xr.2
                        obtain ⟨y, hy⟩ : ∃ y, (outTo t.st i)[i]? = some y := ⟨_, getD_some (by rw [outTo_len _ hi]; omega)⟩
                        have hc := (hP.r3.cell i).trans (U8_get hy)
                        have hf := hP.r3.frozen i
                        have HP := Lib.hid hP
                        clear hP hy xr
                        go_wp2_with fail
                        refine ⟨⟨i + 1, by omega, by push_cast; rfl, ?_⟩, by simp [intOf]; omega⟩
                        have h := HP.out.store hlt
                        rw [OE.out] at h
                        exact h
                      · obtain rfl : i = 32 := by omega
                        have R3 := Lib.hid (show wr.rangeAt B 0 (U8 (finH s)) by
                          have h := hP.r3.range
                          rwa [outTo_all, ← OF.out] at h)
                        have TH := Lib.hid hP.r2.there
                        have LE := Lib.hid (show (U8 (finH s)).length = 32 by rw [OF.out]; simp [U8, outH_len])
                        have KEY := Lib.hid (show Row (wr.setCells (w.heap.size + 1) 0 (U8 (finH s))) (w.heap.size + 1) 122 (U8 (finH s)) ∧ Below w.heap.size w (wr.setCells (w.heap.size + 1) 0 (U8 (finH s))) from
                          ⟨hP.r2.setAll _ (by rw [LE.out]; rfl), below_setCells (by omega) _ _ _ hP.bw⟩)
                        have ONE := Lib.hid (U8_one (finH s))
                        clear hP OF FR FLEN
                        generalize hR : U8 (finH s) = R at *
                        have RE := Lib.hid hR
                        clear hR
                        go_wp2_with (first
                          | (with_reducible refine wpList_load_mid rfl 122 (.tmp 8) rfl B 0 rfl R _ R3.out Tryz.underlying122 ?ld ?li ?_)
                          | (with_reducible refine wpList_store_mid rfl 122 (.tmp 2) _ rfl (w.heap.size + 1) 0 _ rfl rfl ?ht ?hi ?h1 ?_))
                        case ld => rfl
                        case li => rw [LE.out]; exact info24
                        case ht => rw [show R.toArray.size = 32 from LE.out]; exact TH.out
                        case hi => rw [show R.toArray.size = 32 from LE.out]; exact info24
                        case h1 => exact ONE.out
                        exact bodyPost_ret (results_cell rfl _ _ _ (w.heap.size + 1) R _ rfl KEY.out.1.range Tryz.underlying122 rfl (by rw [LE.out]; exact info24)) rfl ⟨by rw [RE.out], KEY.out.2⟩
end Go.Proofs.YtfhbpgickkibmaaGreatDoor
