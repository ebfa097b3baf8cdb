/- The contract of the reference's keys; words for its schedule. -/
import Derived.Test.YtldonfgdomeacaaDoorLh
import Derived.Deep.AppendLies
import Derived.Deep.DeepAppendRoom
namespace Go.Proofs.YtldonfgdomeacaaDoor
open Go.RowKit

set_option maxRecDepth 100000 in
theorem keys_any (w : World) : Calls Tryd.prog 34 #[] w fun e w' => e = .returned (.slice (some ⟨w.heap.size, 0, none⟩) 64 64) ∧ Row w' w.heap.size 27 (U32 Ks) ∧ Below w.heap.size w w' := by
  go_enter Tryd.func34, Tryd.ntmps34
  go_wp2_with fail
  go_ret
  exact ⟨rfl, Row.new w 27 (U32 Ks), (Below.refl _ _).alloc (Nat.le_refl _) _⟩
theorem info27z : (Tryd.prog.info? 27).map (fun i => (i.size, i.zero, i.bytes)) = some (1, some (.int .u32 0), 4) := by kernel_rfl
theorem i27all : ∃ i, Tryd.prog.info? 27 = some i ∧ i.zero = some (.int .u32 0) ∧ i.size = 1 ∧ i.bytes = 4 := by
  have h := info27z
  rw [Option.map_eq_some_iff] at h
  obtain ⟨i, hi, he⟩ := h
  injection he with h1 h2
  injection h2 with h2 h3
  exact ⟨i, hi, h2, h1, h3⟩
/-- What holds in the reference's Block while the schedule grows; B: the first block of its own beyond the three. -/
structure BX (w : World) (s : St) (bs : List Int) (v : Value) (i : Nat) (wr : World) : Prop where
  r2 : Row wr w.heap.size 28 (stV s).toList
  r3 : Row wr (w.heap.size + 1) 30 (U8 bs)
  r4 : Row wr (w.heap.size + 1 + 1) 28 (U32 (List.replicate 8 0))
  o : wr.ownsRow (w.heap.size + 1 + 1 + 1) 27 1 v i (U32 (schedTo bs i))
  sz : w.heap.size + 1 + 1 + 1 ≤ wr.heap.size
  bw : Below w.heap.size w wr
theorem BX.drew {w wr : World} {s : St} {bs : List Int} {v : Value} {i : Nat} (h : BX w s bs v i wr) : BX w s bs v i wr.drew := ⟨h.r2, h.r3, h.r4, h.o, h.sz, h.bw.drew⟩
theorem BX.drewN {w wr : World} {s : St} {bs : List Int} {v : Value} {i : Nat} (h : BX w s bs v i wr) (q : Nat) : BX w s bs v i (wr.drewN q) := ⟨h.r2, h.r3, h.r4, h.o, h.sz, ⟨h.bw.os, h.bw.tape, h.bw.output, h.bw.size, h.bw.block⟩⟩
theorem BX.push {w wr w1 : World} {s : St} {bs : List Int} {v v1 : Value} {i : Nat} {x : Int} (H : BX w s bs v i wr) (hx : x = nextW bs (schedTo bs i) i) (o1 : w1.ownsRow (w.heap.size + 1 + 1 + 1) 27 1 v1 (i + 1) (U32 (schedTo bs i) ++ [.int .u32 x]))
    (hg : (wr.alloc (.cells #[.int .u32 x] 27)).grownBy w1 v.ownBlock) : BX w s bs v1 (i + 1) w1 := by
  have hs := H.sz
  have hob := own_block H.o
  have key : ∀ b, b < w.heap.size + 1 + 1 + 1 → w1.heap[b]? = wr.heap[b]? := fun b hb => by
    rw [hg.block b (by simp; omega) (fun e => by have := hob b e.symm; omega)]
    exact ((Below.refl wr.heap.size wr).alloc (Nat.le_refl _) _).block b (by omega)
  refine ⟨H.r2.of (key _ (by omega)), H.r3.of (key _ (by omega)), H.r4.of (key _ (by omega)), ?_, ?_, ?_⟩
  · rw [schedTo, ← hx]
    unfold U32 at o1 ⊢
    rw [List.map_append]
    exact o1
  · have := hg.size
    simp at this
    omega
  · exact (H.bw.alloc H.bw.size _).grown hg (by simp; omega) (fun k hk => by have := hob k hk; omega)
/-- append(own, word). -/
theorem wpList_append_word {w : World} {ops : Array Oper} {rest : List Oper} {o : Oper} {a : Act} {Q : Exit → Act → World → Prop} (hgd : o.guard = none) (s x : Operand)
    (ho : o.op = .call { callee := .builtin .append, args := #[s, x], argTypes := #[53, 53] }) (base : Nat) (v : Value) (n : Nat) (xs : List Value) (hs : a.eval s = v) (hown : w.ownsRow base 27 1 v n xs)
    (b : Nat) (y : Int) (hx : a.eval x = .slice (some ⟨b, 0, none⟩) 1 1) (hB : Row w b 27 [.int .u32 y]) (hbound : n ≤ 1000) (hbase : base ≤ w.heap.size)
    (h : ∀ v' w', w'.ownsRow base 27 1 v' (n + 1) (xs ++ [.int .u32 y]) → w.grownBy w' v.ownBlock → wpList Tryd.prog ops Q rest (a.put o.dst v') w') : wpList Tryd.prog ops Q (o :: rest) a w := by
  obtain ⟨i, hi, hz, hsz, hby⟩ := i27all
  refine wpList_append_own w hgd s x 53 ho base 27 i (.int .u32 0) 1 4 Tryd.underlying53 hi hz hsz hby rfl (by decide) v n xs hs hown ⟨b, 0, none⟩ 1 1 [.int .u32 y] hx rfl (news_row hB) (fun u hu => ?_) (by unfold maxLen; omega) (by omega) hbase ?_
  · rw [List.mem_singleton] at hu; subst hu; rfl
  · intro v' w' h1 h2 _
    exact h v' w' h1 h2
/-- The same as one step of a region that draws. -/
theorem step_append_word {w : World} {ops : Array Oper} {o : Oper} {a : Act} {K : Act → World → Prop} {Q : Exit → Act → World → Prop} {E : Prop} (hgd : o.guard = none) (s x : Operand)
    (ho : o.op = .call { callee := .builtin .append, args := #[s, x], argTypes := #[53, 53] }) (base : Nat) (v : Value) (n : Nat) (xs : List Value) (hs : a.eval s = v) (hown : w.ownsRow base 27 1 v n xs)
    (b : Nat) (y : Int) (hx : a.eval x = .slice (some ⟨b, 0, none⟩) 1 1) (hB : Row w b 27 [.int .u32 y]) (hbound : n ≤ 1000) (hbase : base ≤ w.heap.size)
    (h : ∀ v' w', w'.ownsRow base 27 1 v' (n + 1) (xs ++ [.int .u32 y]) → w.grownBy w' v.ownBlock → K (a.put o.dst v') w') :
    if Region.wanted o (yielded ops a.tmps) = true then Oper.wp Tryd.prog o a w K Q else E := by
  have hw : Region.wanted o (yielded ops a.tmps) = true := by simp [Region.wanted, hgd]
  rw [if_pos hw]
  obtain ⟨i, hi, hz, hsz, hby⟩ := i27all
  refine wp_append_own w s x 53 ho base 27 i (.int .u32 0) 1 4 Tryd.underlying53 hi hz hsz hby rfl (by decide) v n xs hs hown ⟨b, 0, none⟩ 1 1 [.int .u32 y] hx rfl (news_row hB) (fun u hu => ?_) (by unfold maxLen; omega) (by omega) hbase ?_
  · rw [List.mem_singleton] at hu; subst hu; rfl
  · intro v' w' h1 h2 _
    exact h v' w' h1 h2
theorem grown_drew {X w1 : World} {r : Option Nat} (h : X.drew.grownBy w1 r) : X.grownBy w1 r := ⟨h.os, h.tape, h.output, h.size, h.block⟩
theorem grown_drewN {X w1 : World} {q : Nat} {r : Option Nat} (h : (X.drewN q).grownBy w1 r) : X.grownBy w1 r := ⟨h.os, h.tape, h.output, h.size, h.block⟩
/-- An owned row's cells. -/
theorem owns_at {w : World} {base : Nat} {v : Value} {n : Nat} {xs : List Int} (h : w.ownsRow base 27 1 v n (U32 xs)) (hn : 0 < n) : ∃ g cap, v = .slice (some ⟨g, 0, none⟩) n cap ∧ n ≤ cap ∧ base ≤ g ∧ ∀ j, j < n → w.cell? ⟨g, j, none⟩ = some (.int .u32 (xs.getD j 0)) := by
  have hl : xs.length = n := by have := h.1; simpa [U32] using this
  rcases h.2 with ⟨_, h0⟩ | ⟨g, cap, cur, rfl, hb, hg, hc, _, hs, ht⟩
  · omega
  · refine ⟨g, cap, rfl, hc, hb, fun j hj => ?_⟩
    rw [cell_of_row w g j cur 27 (0, 0) hg]
    have h2 : (cur.toList.take (n * 1))[j]? = (U32 xs)[j]? := by rw [ht]
    rw [List.getElem?_take, if_pos (by omega), U32_get (getD_some (by omega))] at h2
    simpa using h2
theorem owns_cell {w : World} {base g n cap : Nat} {e : TypeId} {xs : List Value} (h : w.ownsRow base e 1 (.slice (some ⟨g, 0, none⟩) n cap) n xs) {j : Nat} {u : Value} (hu : xs[j]? = some u) : w.cell? ⟨g, j, none⟩ = some u := by
  rcases h.2 with ⟨h0, _⟩ | ⟨g', cap', cur, hv, hb, hg, hc, _, hs, ht⟩
  · cases h0
  · cases hv
    have hj : j < xs.length := (List.getElem?_eq_some_iff.1 hu).1
    have hl := h.1
    rw [cell_of_row w g j cur e (0, 0) hg]
    have h2 : (cur.toList.take (n * 1))[j]? = xs[j]? := by rw [ht]
    rw [List.getElem?_take, if_pos (by omega), hu] at h2
    simpa using h2
/-- append of a word: what was in the old row is there still. -/
theorem step_append_word2 {w : World} {ops : Array Oper} {o : Oper} {a : Act} {K : Act → World → Prop} {Q : Exit → Act → World → Prop} {E : Prop} (hgd : o.guard = none) (s x : Operand)
    (ho : o.op = .call { callee := .builtin .append, args := #[s, x], argTypes := #[53, 53] }) (base g n cap : Nat) (xs : List Value) (hs : a.eval s = .slice (some ⟨g, 0, none⟩) n cap) (hown : w.ownsRow base 27 1 (.slice (some ⟨g, 0, none⟩) n cap) n xs)
    (b : Nat) (y : Int) (hx : a.eval x = .slice (some ⟨b, 0, none⟩) 1 1) (hB : Row w b 27 [.int .u32 y]) (hbound : n ≤ 1000) (hbase : base ≤ w.heap.size)
    (h : ∀ v' w', w'.ownsRow base 27 1 v' (n + 1) (xs ++ [.int .u32 y]) → w.grownBy w' (some g) → (∀ j u, xs[j]? = some u → w'.cell? ⟨g, j, none⟩ = some u) → K (a.put o.dst v') w') :
    if Region.wanted o (yielded ops a.tmps) = true then Oper.wp Tryd.prog o a w K Q else E := by
  have hw : Region.wanted o (yielded ops a.tmps) = true := by simp [Region.wanted, hgd]
  rw [if_pos hw]
  obtain ⟨i, hi, hz, hsz, hby⟩ := i27all
  have one : ∀ u ∈ [Value.int .u32 y], u.oneCell' = true := fun u hu => by rw [List.mem_singleton] at hu; subst hu; rfl
  by_cases hroom : n + 1 ≤ cap
  · obtain ⟨w', hr, h2, h3⟩ := run_append_own_spare (P := Tryd.prog) w base 53 o.type 27 i 1 Tryd.underlying53 hi hsz g n cap xs hown ⟨b, 0, none⟩ 1 1 [.int .u32 y] rfl (news_row hB) one hroom
    unfold Oper.wp execOp
    simp only [ho, resolve, invoke, builtin, Sem.run_bind, Sem.run_pure, Result.andThen_ok, List.map_toArray, List.map_cons, List.map_nil, hs, hx, hr]
    refine h _ w' h2 h3 (fun j u hu => owns_cell h2 ?_)
    rw [List.getElem?_append_left (List.getElem?_eq_some_iff.1 hu).1]
    exact hu
  · have hlo := hown.1
    obtain ⟨v', w', hr, h2, h3⟩ := run_append_arg_grows (P := Tryd.prog) w 53 o.type 27 i (.int .u32 0) 1 4 Tryd.underlying53 hi hz hsz hby rfl (by decide) ⟨g, 0, none⟩ n cap xs hlo
      (fun j u hu => by rw [Addr.add_mid, Nat.zero_add]; exact owns_cell hown hu) ⟨b, 0, none⟩ 1 1 [.int .u32 y] rfl (news_row hB) (by omega) (by unfold maxLen; omega) (by omega)
    unfold Oper.wp execOp
    simp only [ho, resolve, invoke, builtin, Sem.run_bind, Sem.run_pure, Result.andThen_ok, List.map_toArray, List.map_cons, List.map_nil, hs, hx, hr]
    refine h v' w' ⟨h2.1, ?_⟩ ⟨h3.os, h3.tape, h3.output, h3.size, fun k hk _ => h3.block k hk (by simp)⟩ (fun j u hu => ?_)
    · rcases h2.2 with q | ⟨g', cap', cur, q1, q2, q3⟩
      · exact .inl q
      · exact .inr ⟨g', cap', cur, q1, Nat.le_trans hbase q2, q3⟩
    · have hc := owns_cell hown hu
      rw [World.cell?_of_block (w := w) (a := ⟨g, j, none⟩) (h3.block g (block_lt_of_cell hc) (by simp))]
      exact hc
end Go.Proofs.YtldonfgdomeacaaDoor
