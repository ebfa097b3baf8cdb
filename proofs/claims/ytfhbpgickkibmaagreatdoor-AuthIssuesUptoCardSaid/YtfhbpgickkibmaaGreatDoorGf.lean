/- The reference's Block. -/
import Derived.Test.YtfhbpgickkibmaaGreatDoorGe
import Derived.Deep.AppendLies
import Derived.Deep.DeepAppendRoom
namespace Go.Proofs.YtfhbpgickkibmaaGreatDoor
open Go.RowKit

set_option maxRecDepth 100000 in
theorem keys_any (w : World) : Calls Tryz.prog 167 #[] w fun e w' => e = .returned (.slice (some ⟨w.heap.size, 0, none⟩) 64 64) ∧ Row w' w.heap.size 72 (U32 Ks) ∧ Below w.heap.size w w' := by
  go_enter Tryz.func167, Tryz.ntmps167
  go_wp2_with fail
  go_ret
  exact ⟨rfl, Row.new w 72 (U32 Ks), (Below.refl _ _).alloc (Nat.le_refl _) _⟩
theorem info27z : (Tryz.prog.info? 72).map (fun i => (i.size, i.zero, i.bytes)) = some (1, some (.int .u32 0), 4) := by kernel_rfl
theorem i27all : ∃ i, Tryz.prog.info? 72 = some i ∧ i.zero = some (.int .u32 0) ∧ i.size = 1 ∧ i.bytes = 4 := by
  have h := info27z
  rw [Option.map_eq_some_iff] at h
  obtain ⟨i, hi, he⟩ := h
  injection he with h1 h2
  injection h2 with h2 h3
  exact ⟨i, hi, h2, h1, h3⟩
/-- What holds in the reference's Block while the schedule grows; B: the first block of its own beyond the three. -/
structure BX (w : World) (s : St) (bs : List Int) (v : Value) (i : Nat) (wr : World) : Prop where
  r2 : Row wr w.heap.size 150 (stV s).toList
  r3 : Row wr (w.heap.size + 1) 152 (U8 bs)
  r4 : Row wr (w.heap.size + 1 + 1) 150 (U32 (List.replicate 8 0))
  o : wr.ownsRow (w.heap.size + 1 + 1 + 1) 72 1 v i (U32 (schedTo bs i))
  sz : w.heap.size + 1 + 1 + 1 ≤ wr.heap.size
  bw : Below w.heap.size w wr
theorem BX.drew {w wr : World} {s : St} {bs : List Int} {v : Value} {i : Nat} (h : BX w s bs v i wr) : BX w s bs v i wr.drew := ⟨h.r2, h.r3, h.r4, h.o, h.sz, h.bw.drew⟩
theorem BX.drewN {w wr : World} {s : St} {bs : List Int} {v : Value} {i : Nat} (h : BX w s bs v i wr) (q : Nat) : BX w s bs v i (wr.drewN q) := ⟨h.r2, h.r3, h.r4, h.o, h.sz, ⟨h.bw.os, h.bw.tape, h.bw.output, h.bw.size, h.bw.block⟩⟩
theorem BX.push {w wr w1 : World} {s : St} {bs : List Int} {v v1 : Value} {i : Nat} {x : Int} (H : BX w s bs v i wr) (hx : x = nextW bs (schedTo bs i) i) (o1 : w1.ownsRow (w.heap.size + 1 + 1 + 1) 72 1 v1 (i + 1) (U32 (schedTo bs i) ++ [.int .u32 x]))
    (hg : (wr.alloc (.cells #[.int .u32 x] 72)).grownBy w1 v.ownBlock) : BX w s bs v1 (i + 1) w1 := by
  have hs := H.sz
  have hob := own_block H.o
  have key : ∀ b, b < w.heap.size + 1 + 1 + 1 → w1.heap[b]? = wr.heap[b]? := fun b hb => by
    rw [hg.block b (by simp; omega) (fun e => by have := hob b e.symm; omega)]
    exact ((Below.refl wr.heap.size wr).alloc (Nat.le_refl _) _).block b (by omega)
  refine ⟨H.r2.of (key _ (by omega)), H.r3.of (key _ (by omega)), H.r4.of (key _ (by omega)), ?_, ?_, ?_⟩
  · rw [schedTo, ← hx]
    unfold U32 at o1 ⊢
    rw [List.map_append]
    exact o1
  · have := hg.size
    simp at this
    omega
  · exact (H.bw.alloc H.bw.size _).grown hg (by simp; omega) (fun k hk => by have := hob k hk; omega)
/-- The same as one step of a region that draws. -/
theorem step_append_word {w : World} {ops : Array Oper} {o : Oper} {a : Act} {K : Act → World → Prop} {Q : Exit → Act → World → Prop} {E : Prop} (hgd : o.guard = none) (s x : Operand)
    (ho : o.op = .call { callee := .builtin .append, args := #[s, x], argTypes := #[71, 71] }) (base : Nat) (v : Value) (n : Nat) (xs : List Value) (hs : a.eval s = v) (hown : w.ownsRow base 72 1 v n xs)
    (b : Nat) (y : Int) (hx : a.eval x = .slice (some ⟨b, 0, none⟩) 1 1) (hB : Row w b 72 [.int .u32 y]) (hbound : n ≤ 1000) (hbase : base ≤ w.heap.size)
    (h : ∀ v' w', w'.ownsRow base 72 1 v' (n + 1) (xs ++ [.int .u32 y]) → w.grownBy w' v.ownBlock → K (a.put o.dst v') w') :
    if Region.wanted o (yielded ops a.tmps) = true then Oper.wp Tryz.prog o a w K Q else E := by
  have hw : Region.wanted o (yielded ops a.tmps) = true := by simp [Region.wanted, hgd]
  rw [if_pos hw]
  obtain ⟨i, hi, hz, hsz, hby⟩ := i27all
  refine wp_append_own w s x 71 ho base 72 i (.int .u32 0) 1 4 Tryz.underlying71 hi hz hsz hby rfl (by decide) v n xs hs hown ⟨b, 0, none⟩ 1 1 [.int .u32 y] hx rfl (news_row hB) (fun u hu => ?_) (by unfold maxLen; omega) (by omega) hbase ?_
  · rw [List.mem_singleton] at hu; subst hu; rfl
  · intro v' w' h1 h2 _
    exact h v' w' h1 h2
theorem grown_drew {X w1 : World} {r : Option Nat} (h : X.drew.grownBy w1 r) : X.grownBy w1 r := ⟨h.os, h.tape, h.output, h.size, h.block⟩
/-- An owned row's cells. -/
theorem owns_at {w : World} {base : Nat} {v : Value} {n : Nat} {xs : List Int} (h : w.ownsRow base 72 1 v n (U32 xs)) (hn : 0 < n) : ∃ g cap, v = .slice (some ⟨g, 0, none⟩) n cap ∧ n ≤ cap ∧ base ≤ g ∧ ∀ j, j < n → w.cell? ⟨g, j, none⟩ = some (.int .u32 (xs.getD j 0)) := by
  have hl : xs.length = n := by have := h.1; simpa [U32] using this
  rcases h.2 with ⟨_, h0⟩ | ⟨g, cap, cur, rfl, hb, hg, hc, _, hs, ht⟩
  · omega
  · refine ⟨g, cap, rfl, hc, hb, fun j hj => ?_⟩
    rw [cell_of_row w g j cur 72 (0, 0) hg]
    have h2 : (cur.toList.take (n * 1))[j]? = (U32 xs)[j]? := by rw [ht]
    rw [List.getElem?_take, if_pos (by omega), U32_get (getD_some (by omega))] at h2
    simpa using h2
theorem owns_cell {w : World} {base g n cap : Nat} {e : TypeId} {xs : List Value} (h : w.ownsRow base e 1 (.slice (some ⟨g, 0, none⟩) n cap) n xs) {j : Nat} {u : Value} (hu : xs[j]? = some u) : w.cell? ⟨g, j, none⟩ = some u := by
  rcases h.2 with ⟨h0, _⟩ | ⟨g', cap', cur, hv, hb, hg, hc, _, hs, ht⟩
  · cases h0
  · cases hv
    have hj : j < xs.length := (List.getElem?_eq_some_iff.1 hu).1
    have hl := h.1
    rw [cell_of_row w g j cur e (0, 0) hg]
    have h2 : (cur.toList.take (n * 1))[j]? = xs[j]? := by rw [ht]
    rw [List.getElem?_take, if_pos (by omega), hu] at h2
    simpa using h2
/-- append of a word: what was in the old row is there still. -/
theorem step_append_word2 {w : World} {ops : Array Oper} {o : Oper} {a : Act} {K : Act → World → Prop} {Q : Exit → Act → World → Prop} {E : Prop} (hgd : o.guard = none) (s x : Operand)
    (ho : o.op = .call { callee := .builtin .append, args := #[s, x], argTypes := #[71, 71] }) (base g n cap : Nat) (xs : List Value) (hs : a.eval s = .slice (some ⟨g, 0, none⟩) n cap) (hown : w.ownsRow base 72 1 (.slice (some ⟨g, 0, none⟩) n cap) n xs)
    (b : Nat) (y : Int) (hx : a.eval x = .slice (some ⟨b, 0, none⟩) 1 1) (hB : Row w b 72 [.int .u32 y]) (hbound : n ≤ 1000) (hbase : base ≤ w.heap.size)
    (h : ∀ v' w', w'.ownsRow base 72 1 v' (n + 1) (xs ++ [.int .u32 y]) → w.grownBy w' (some g) → (∀ j u, xs[j]? = some u → w'.cell? ⟨g, j, none⟩ = some u) → K (a.put o.dst v') w') :
    if Region.wanted o (yielded ops a.tmps) = true then Oper.wp Tryz.prog o a w K Q else E := by
  have hw : Region.wanted o (yielded ops a.tmps) = true := by simp [Region.wanted, hgd]
  rw [if_pos hw]
  obtain ⟨i, hi, hz, hsz, hby⟩ := i27all
  have one : ∀ u ∈ [Value.int .u32 y], u.oneCell' = true := fun u hu => by rw [List.mem_singleton] at hu; subst hu; rfl
  by_cases hroom : n + 1 ≤ cap
  · obtain ⟨w', hr, h2, h3⟩ := run_append_own_spare (P := Tryz.prog) w base 71 o.type 72 i 1 Tryz.underlying71 hi hsz g n cap xs hown ⟨b, 0, none⟩ 1 1 [.int .u32 y] rfl (news_row hB) one hroom
    unfold Oper.wp execOp
    simp only [ho, resolve, invoke, builtin, Sem.run_bind, Sem.run_pure, Result.andThen_ok, List.map_toArray, List.map_cons, List.map_nil, hs, hx, hr]
    refine h _ w' h2 h3 (fun j u hu => owns_cell h2 ?_)
    rw [List.getElem?_append_left (List.getElem?_eq_some_iff.1 hu).1]
    exact hu
  · have hlo := hown.1
    obtain ⟨v', w', hr, h2, h3⟩ := run_append_arg_grows (P := Tryz.prog) w 71 o.type 72 i (.int .u32 0) 1 4 Tryz.underlying71 hi hz hsz hby rfl (by decide) ⟨g, 0, none⟩ n cap xs hlo
      (fun j u hu => by rw [Addr.add_mid, Nat.zero_add]; exact owns_cell hown hu) ⟨b, 0, none⟩ 1 1 [.int .u32 y] rfl (news_row hB) (by omega) (by unfold maxLen; omega) (by omega)
    unfold Oper.wp execOp
    simp only [ho, resolve, invoke, builtin, Sem.run_bind, Sem.run_pure, Result.andThen_ok, List.map_toArray, List.map_cons, List.map_nil, hs, hx, hr]
    refine h v' w' ⟨h2.1, ?_⟩ ⟨h3.os, h3.tape, h3.output, h3.size, fun k hk _ => h3.block k hk (by simp)⟩ (fun j u hu => ?_)
    · rcases h2.2 with q | ⟨g', cap', cur, q1, q2, q3⟩
      · exact .inl q
      · exact .inr ⟨g', cap', cur, q1, Nat.le_trans hbase q2, q3⟩
    · have hc := owns_cell hown hu
      rw [World.cell?_of_block (w := w) (a := ⟨g, j, none⟩) (h3.block g (block_lt_of_cell hc) (by simp))]
      exact hc
theorem BX.base {w wr : World} {s : St} {bs : List Int} {v : Value} {i : Nat} (H : BX w s bs v i wr) (o : Obj) : w.heap.size + 1 + 1 + 1 ≤ (wr.alloc o).heap.size := by have := H.sz; simp; omega
theorem BX.cells {w wr : World} {s : St} {bs : List Int} {v : Value} {i j0 j1 j2 j3 : Nat} {x0 x1 x2 x3 : Int} (H : BX w s bs v i wr) (h0 : bs[j0]? = some x0) (h1 : bs[j1]? = some x1) (h2 : bs[j2]? = some x2) (h3 : bs[j3]? = some x3) :
    wr.cell? ⟨w.heap.size + 1, j0, none⟩ = some (.int .u8 x0) ∧ wr.cell? ⟨w.heap.size + 1, j1, none⟩ = some (.int .u8 x1) ∧ wr.cell? ⟨w.heap.size + 1, j2, none⟩ = some (.int .u8 x2) ∧ wr.cell? ⟨w.heap.size + 1, j3, none⟩ = some (.int .u8 x3) :=
  ⟨(H.r3.cell _).trans (U8_get h0), (H.r3.cell _).trans (U8_get h1), (H.r3.cell _).trans (U8_get h2), (H.r3.cell _).trans (U8_get h3)⟩
theorem grown_any {X Y w1 : World} {r : Option Nat} (h : Y.grownBy w1 r) (h1 : Y.heap = X.heap) (h2 : Y.os = X.os) (h3 : Y.tape = X.tape) (h4 : Y.output = X.output) : X.grownBy w1 r :=
  ⟨h.os.trans h2, h.tape.trans h3, h.output.trans h4, by rw [← h1]; exact h.size, fun k hk hr => by rw [← h1] at hk ⊢; exact h.block k hk hr⟩
theorem u32w {z : Int} (h0 : 0 ≤ z) (h1 : z < 4294967296) : IntKind.u32.wrap z = z := by rw [IntKind.wrap_u32]; omega
theorem nw_eq {n a b c d : Int} (h : n = AD (AD (AD a b) c) d) : IntKind.u32.wrap (IntKind.u32.wrap (IntKind.u32.wrap (a + b) + c) + d) = n := by
  rw [h]; simp only [IntKind.wrap_u32]; rfl
/-- What holds in the rounds; B: the block of the keys. -/
structure B3 (w : World) (B : Nat) (s : St) (bs : List Int) (v : Value) (wr : World) : Prop where
  r2 : Row wr w.heap.size 150 (stV s).toList
  r4 : Row wr (w.heap.size + 1 + 1) 150 (U32 (List.replicate 8 0))
  o : wr.ownsRow (w.heap.size + 1 + 1 + 1) 72 1 v 64 (U32 (schedTo bs 64))
  rk : Row wr B 72 (U32 Ks)
  bw : Below w.heap.size w wr
theorem B3.drewN {w wr : World} {B : Nat} {s : St} {bs : List Int} {v : Value} (h : B3 w B s bs v wr) (q : Nat) : B3 w B s bs v (wr.drewN q) := ⟨h.r2, h.r4, h.o, h.rk, ⟨h.bw.os, h.bw.tape, h.bw.output, h.bw.size, h.bw.block⟩⟩
def IsSt (r : St) (va vb vc vd ve vf vg vh : Value) : Prop := va = .int .u32 r.a ∧ vb = .int .u32 r.b ∧ vc = .int .u32 r.c ∧ vd = .int .u32 r.d ∧ ve = .int .u32 r.e ∧ vf = .int .u32 r.f ∧ vg = .int .u32 r.g ∧ vh = .int .u32 r.h
def B3R (w : World) (B : Nat) (s : St) (bs : List Int) (v : Value) (va vb vc vd ve vf vg vh v17 : Value) (wr : World) : Prop :=
  ∃ i : Nat, i ≤ 64 ∧ v17 = .int .i64 i ∧ IsSt (roundTo Ks (schedTo bs 64) s i) va vb vc vd ve vf vg vh ∧ B3 w B s bs v wr
def BXR (w : World) (s : St) (bs : List Int) (lo hi : Nat) (v v6 : Value) (wr : World) : Prop := ∃ (i : Nat) (x : Value), lo ≤ i ∧ i ≤ hi ∧ x = v ∧ v6 = .int .i64 i ∧ BX w s bs x i wr
set_option maxRecDepth 100000 in
set_option maxHeartbeats 4000000 in
theorem refblock_any (s : St) (bs : List Int) (w : World) (hb : Bytes bs) (hs : StR s) : Calls Tryz.prog 148 #[.agg (stV s), .agg (U8 bs).toArray] w fun e w' => e = .returned (.agg (stV (blockS s bs))) ∧ Below w.heap.size w w' := by
  have HB := Lib.hid hb; have SR := Lib.hid hs
  clear hb hs
  unfold stV
  go_enter Tryz.func148, Tryz.ntmps148
  go_wp2_with fail
  go_loopw [5, 6] (fun v v6 wr => BXR w s bs 0 16 v v6 wr) (fun _ v _ => 16 - (intOf v).toNat)
  case atStart =>
    refine ⟨0, _, by omega, by omega, rfl, rfl, ?_, ?_, ?_, World.ownsRow_nil _ _ _ _, by simp, ?_⟩
    · exact ((Row.new w 150 (stV s).toList).alloc _).alloc _
    · have h := Row.new (w.alloc (.cells (stV s) 150)) 152 (U8 bs)
      rw [World.size_alloc] at h
      exact h.alloc _
    · have h := Row.new ((w.alloc (.cells (stV s) 150)).alloc (.cells (U8 bs).toArray 152)) 150 (U32 (List.replicate 8 0))
      rw [World.size_alloc, World.size_alloc] at h
      exact h
    · exact (((Below.refl _ _).alloc (Nat.le_refl _) _).alloc (by simp) _).alloc (by simp; omega) _
  case round =>
    obtain ⟨i, v, _, hi, rfl, rfl, hP⟩ := hrel
    have HP := Lib.hid hP
    by_cases hlt : i < 16
    ·
      -- [[A
      obtain ⟨e0, p0, p1⟩ := HB.out.at_ (i := 4 * i) (by omega)
      obtain ⟨e1, p2, p3⟩ := HB.out.at_ (i := 4 * i + 1) (by omega)
      obtain ⟨e2, p4, p5⟩ := HB.out.at_ (i := 4 * i + 2) (by omega)
      obtain ⟨e3, p6, p7⟩ := HB.out.at_ (i := 4 * i + 3) (by omega)
      have a0 := (hP.r3.cell (4 * i)).trans (U8_get e0)
      have a1 := (hP.r3.cell (4 * i + 1)).trans (U8_get e1)
      have a2 := (hP.r3.cell (4 * i + 2)).trans (U8_get e2)
      have a3 := (hP.r3.cell (4 * i + 3)).trans (U8_get e3)
      have NW := Lib.hid (show nextW bs (schedTo bs i) i = word bs i by rw [nextW, if_pos hlt])
      have WD := Lib.hid (show word bs i = bs.getD (4 * i) 0 * 16777216 + bs.getD (4 * i + 1) 0 * 65536 + bs.getD (4 * i + 2) 0 * 256 + bs.getD (4 * i + 3) 0 from rfl)
      have A0 := Lib.hid e0; have A1 := Lib.hid e1; have A2 := Lib.hid e2; have A3 := Lib.hid e3
      generalize bs.getD (4 * i) 0 = x0 at *
      generalize bs.getD (4 * i + 1) 0 = x1 at *
      generalize bs.getD (4 * i + 2) 0 = x2 at *
      generalize bs.getD (4 * i + 3) 0 = x3 at *
      clear e0 e1 e2 e3 hP
      have j0 : (0 : Int) ≤ 4 * (i : Int) := by omega
      have j1 : 4 * (i : Int) < 64 := by omega
      have j2 : (0 : Int) ≤ 4 * (i : Int) + 1 := by omega
      have j3 : 4 * (i : Int) + 1 < 64 := by omega
      have j4 : (0 : Int) ≤ 4 * (i : Int) + 2 := by omega
      have j5 : 4 * (i : Int) + 2 < 64 := by omega
      have j6 : (0 : Int) ≤ 4 * (i : Int) + 3 := by omega
      have j7 : 4 * (i : Int) + 3 < 64 := by omega
      have t0 : (4 * (i : Int)).toNat = 4 * i := by omega
      have t1 : (4 * (i : Int) + 1).toNat = 4 * i + 1 := by omega
      have t2 : (4 * (i : Int) + 2).toNat = 4 * i + 2 := by omega
      have t3 : (4 * (i : Int) + 3).toNat = 4 * i + 3 := by omega
      have v0 : IntKind.i64.wrap (4 * (i : Int)) = 4 * (i : Int) := IntWalk.i64_in _ (by omega)
      have v1 : IntKind.i64.wrap (4 * (i : Int) + 1) = 4 * (i : Int) + 1 := IntWalk.i64_in _ (by omega)
      have v2 : IntKind.i64.wrap (4 * (i : Int) + 2) = 4 * (i : Int) + 2 := IntWalk.i64_in _ (by omega)
      have v3 : IntKind.i64.wrap (4 * (i : Int) + 3) = 4 * (i : Int) + 3 := IntWalk.i64_in _ (by omega)
      have hd : decide ((i : Int) < 16) = true := by simp; omega
      have ib : i ≤ 1000 := by omega
      have c0 := u32w (z := x0) p0 (by omega)
      have c1 := u32w (z := x1) p2 (by omega)
      have c2 := u32w (z := x2) p4 (by omega)
      have c3 := u32w (z := x3) p6 (by omega)
      have m0 := u32w (z := x0 * 16777216) (by omega) (by omega)
      have m1 := u32w (z := x1 * 65536) (by omega) (by omega)
      have m2 := u32w (z := x2 * 256) (by omega) (by omega)
      have n1 := u32w (z := x0 * 16777216 + x1 * 65536) (by omega) (by omega)
      have n2 := u32w (z := x0 * 16777216 + x1 * 65536 + x2 * 256) (by omega) (by omega)
      have n3 := u32w (z := x0 * 16777216 + x1 * 65536 + x2 * 256 + x3) (by omega) (by omega)
      go_wp2_with fail
      go_region_held3 (fun w' => w'.cell? ⟨w.heap.size + 1, 4 * i, none⟩ = some (.int .u8 x0) ∧ w'.cell? ⟨w.heap.size + 1, 4 * i + 1, none⟩ = some (.int .u8 x1) ∧ w'.cell? ⟨w.heap.size + 1, 4 * i + 2, none⟩ = some (.int .u8 x2) ∧ w'.cell? ⟨w.heap.size + 1, 4 * i + 3, none⟩ = some (.int .u8 x3)) (first | go_keep | with_reducible exact KS.out) ((refine step_append_word rfl (.tmp 24) (.tmp 54) rfl (w.heap.size + 1 + 1 + 1) v i (U32 (schedTo bs i)) rfl (HP.out.o.alloc _) wr.heap.size (x0 * 16777216 + x1 * 65536 + x2 * 256 + x3) rfl (Row.new wr 72 _) ib (HP.out.base _) ?_; intro va wa o1 g1; have KEY := Lib.hid (HP.out.push (by rw [NW.out, WD.out]) o1 (grown_drew g1)); have KS := Lib.hid (KEY.out.cells A0.out A1.out A2.out A3.out); clear o1 g1))
      clear t0 t1 t2 t3 v0 v1 v2 v3 c0 c1 c2 c3 m0 m1 m2 n1 n2 n3
      go_wp2_with fail
      go_roundw
      case rel => exact ⟨i + 1, _, by omega, by omega, rfl, by go_num, KEY.out⟩
      case measure => simp [intOf]; omega
      -- ]]A
    · obtain rfl : i = 16 := by omega
      rw [show ((16 : Nat) : Int) = (16 : Int) from rfl]
      clear hP
      go_wp2_with fail
      go_loopw [5, 7] (fun v v7 wr => BXR w s bs 16 64 v v7 wr) (fun _ v _ => 64 - (intOf v).toNat)
      case atStart => exact ⟨16, _, by omega, by omega, rfl, rfl, HP.out⟩
      case round =>
        clear HP hlt hi
        obtain ⟨i, v, hlo, hi, rfl, rfl, hP⟩ := hrel
        have HP := Lib.hid hP
        clear hP
        by_cases hlt : i < 64
        ·
          -- [[B
          obtain ⟨g, cap, rfl, hcap, hg, hcell⟩ := owns_at HP.out.o (by omega)
          have hw := fun (q : Nat) (hq : q < i) => sched_at bs i 0 hq HB.out
          obtain ⟨_, p0, p1⟩ := hw (i - 2) (by omega)
          obtain ⟨_, p2, p3⟩ := hw (i - 7) (by omega)
          obtain ⟨_, p4, p5⟩ := hw (i - 15) (by omega)
          obtain ⟨_, p6, p7⟩ := hw (i - 16) (by omega)
          have GE := Lib.hid (fun (j : Nat) (hj : j < i) => (show (U32 (schedTo bs i))[j]? = some (.int .u32 ((schedTo bs i).getD j 0)) from U32_get (getD_some (by rw [schedTo_length]; exact hj))))
          have G2 := Lib.hid (GE.out (i - 2) (by omega)); have G7 := Lib.hid (GE.out (i - 7) (by omega)); have G15 := Lib.hid (GE.out (i - 15) (by omega)); have G16 := Lib.hid (GE.out (i - 16) (by omega))
          clear GE
          have a2 := hcell (i - 2) (by omega)
          have a7 := hcell (i - 7) (by omega)
          have a15 := hcell (i - 15) (by omega)
          have a16 := hcell (i - 16) (by omega)
          have NW := Lib.hid (show nextW bs (schedTo bs i) i = AD (AD (AD (sm1 ((schedTo bs i).getD (i - 2) 0)) ((schedTo bs i).getD (i - 7) 0)) (sm0 ((schedTo bs i).getD (i - 15) 0))) ((schedTo bs i).getD (i - 16) 0) by
            rw [nextW, if_neg (by omega)])
          generalize (schedTo bs i).getD (i - 2) 0 = x2 at *
          generalize (schedTo bs i).getD (i - 7) 0 = x7 at *
          generalize (schedTo bs i).getD (i - 15) 0 = x15 at *
          generalize (schedTo bs i).getD (i - 16) 0 = x16 at *
          clear hw hcell
          have j0 : (0 : Int) ≤ (i : Int) - 2 := by omega
          have j1 : (i : Int) - 2 < (i : Int) := by omega
          have j2 : (0 : Int) ≤ (i : Int) - 7 := by omega
          have j3 : (i : Int) - 7 < (i : Int) := by omega
          have j4 : (0 : Int) ≤ (i : Int) - 15 := by omega
          have j5 : (i : Int) - 15 < (i : Int) := by omega
          have j6 : (0 : Int) ≤ (i : Int) - 16 := by omega
          have j7 : (i : Int) - 16 < (i : Int) := by omega
          have t0 : ((i : Int) - 2).toNat = i - 2 := by omega
          have t1 : ((i : Int) - 7).toNat = i - 7 := by omega
          have t2 : ((i : Int) - 15).toNat = i - 15 := by omega
          have t3 : ((i : Int) - 16).toNat = i - 16 := by omega
          have w0 : IntKind.i64.wrap ((i : Int) - 2) = (i : Int) - 2 := IntWalk.i64_in _ (by omega)
          have w1 : IntKind.i64.wrap ((i : Int) - 7) = (i : Int) - 7 := IntWalk.i64_in _ (by omega)
          have w2 : IntKind.i64.wrap ((i : Int) - 15) = (i : Int) - 15 := IntWalk.i64_in _ (by omega)
          have w3 : IntKind.i64.wrap ((i : Int) - 16) = (i : Int) - 16 := IntWalk.i64_in _ (by omega)
          have l2 : (2 : Int) ≤ (i : Int) := by omega
          have l7 : (7 : Int) ≤ (i : Int) := by omega
          have l15 : (15 : Int) ≤ (i : Int) := by omega
          have l16 : (16 : Int) ≤ (i : Int) := by omega
          have hd : decide ((i : Int) < 64) = true := by simp; omega
          have ib : i ≤ 1000 := by omega
          go_wp2_with fail
          go_region_held3 (fun w' => w'.cell? ⟨g, i - 2, none⟩ = some (.int .u32 x2) ∧ w'.cell? ⟨g, i - 7, none⟩ = some (.int .u32 x7) ∧ w'.cell? ⟨g, i - 15, none⟩ = some (.int .u32 x15) ∧ w'.cell? ⟨g, i - 16, none⟩ = some (.int .u32 x16)) (first | go_keep | with_reducible exact KS.out) ((first
            | ((refine step_append_word2 rfl (.tmp 60) (.tmp 86) rfl (w.heap.size + 1 + 1 + 1) g i cap (U32 (schedTo bs i)) rfl (HP.out.o.alloc _) wr.heap.size _ rfl (Row.new wr 72 _) ib (HP.out.base _) ?_); intro va wa o1 g1 k1; have KS := Lib.hid (And.intro (k1 _ _ G2.out) (And.intro (k1 _ _ G7.out) (And.intro (k1 _ _ G15.out) (k1 _ _ G16.out)))); have KEY := Lib.hid (HP.out.push (nw_eq NW.out) o1 (grown_any g1 rfl rfl rfl rfl)); clear o1 g1 k1)
            | ((go_at_call 165); (with_reducible refine (sm1_any x2 _ p0 p1).mono ?_); (rintro e w' ⟨rfl, q, rfl⟩))
            | ((go_at_call 166); (with_reducible refine (sm0_any x15 _ p4 p5).mono ?_); (rintro e w' ⟨rfl, q, rfl⟩))))
          all_goals
            clear t0 t1 t2 t3 w0 w1 w2 w3
            go_wp2_with fail
            go_roundw
            case rel => exact ⟨i + 1, _, by omega, by omega, rfl, by go_num, KEY.out⟩
            case measure => simp [intOf]; omega
          -- ]]B
        · obtain rfl : i = 64 := by omega
          rw [show ((64 : Nat) : Int) = (64 : Int) from rfl]
          clear hlt hi hlo
          go_wp2_with fail
          refine (keys_any wr).mono ?_
          rintro e wk ⟨rfl, hrk, hbk⟩
          obtain ⟨B, hB⟩ : ∃ B, B = wr.heap.size := ⟨_, rfl⟩
          rw [← hB] at hrk ⊢
          have K3 := Lib.hid (show B3 w B s bs v wk from ⟨HP.out.r2.below hbk, HP.out.r4.below hbk, owns_below HP.out.o hbk, hrk, HP.out.bw.trans (hbk.mono HP.out.bw.size)⟩)
          clear hB hrk hbk HP
          have c0 : wk.cell? ⟨w.heap.size, 0, none⟩ = some (.int .u32 s.a) := K3.out.r2.cell 0
          have c1 : wk.cell? ⟨w.heap.size, 1, none⟩ = some (.int .u32 s.b) := K3.out.r2.cell 1
          have c2 : wk.cell? ⟨w.heap.size, 2, none⟩ = some (.int .u32 s.c) := K3.out.r2.cell 2
          have c3 : wk.cell? ⟨w.heap.size, 3, none⟩ = some (.int .u32 s.d) := K3.out.r2.cell 3
          have c4 : wk.cell? ⟨w.heap.size, 4, none⟩ = some (.int .u32 s.e) := K3.out.r2.cell 4
          have c5 : wk.cell? ⟨w.heap.size, 5, none⟩ = some (.int .u32 s.f) := K3.out.r2.cell 5
          have c6 : wk.cell? ⟨w.heap.size, 6, none⟩ = some (.int .u32 s.g) := K3.out.r2.cell 6
          have c7 : wk.cell? ⟨w.heap.size, 7, none⟩ = some (.int .u32 s.h) := K3.out.r2.cell 7
          obtain ⟨g, cap, rfl, hcap, hg, hcell⟩ := owns_at K3.out.o (by omega)
          clear hcell
          go_wp2_with fail
          go_quiet (fail)
          clear c0 c1 c2 c3 c4 c5 c6 c7
          go_wp2_with fail
          go_loopw [9, 10, 11, 12, 13, 14, 15, 16, 17] (fun va vb vc vd ve vf vg vh v17 wr => B3R w B s bs (.slice (some ⟨g, 0, none⟩) 64 cap) va vb vc vd ve vf vg vh v17 wr) (fun _ _ _ _ _ _ _ _ v _ => 64 - (intOf v).toNat)
          case atStart => exact ⟨0, by omega, rfl, ⟨rfl, rfl, rfl, rfl, rfl, rfl, rfl, rfl⟩, K3.out.drewN _⟩
          case round =>
            clear K3
            obtain ⟨i, hi, rfl, ⟨rfl, rfl, rfl, rfl, rfl, rfl, rfl, rfl⟩, hP⟩ := hrel
            have HP := Lib.hid hP
            by_cases hlt : i < 64
            ·
              -- [[C
              have hR := roundTo_range (s := s) SR.out (schedTo bs 64) i
              obtain ⟨g', cap', hgg, _, _, hcell⟩ := owns_at hP.o (by omega)
              cases hgg
              obtain ⟨e5, p0, p1⟩ := sched_at bs 64 0 hlt HB.out
              have a5 := hcell i hlt
              have ak : wr.cell? ⟨B, i, none⟩ = some (.int .u32 (Ks.getD i 0)) := (hP.rk.cell i).trans (U32_get (getD_some hlt))
              have NX := Lib.hid (show roundTo Ks (schedTo bs 64) s (i + 1) = rnd (Ks.getD i 0) ((schedTo bs 64).getD i 0) (roundTo Ks (schedTo bs 64) s i) from rfl)
              clear e5 hcell hP
              generalize (schedTo bs 64).getD i 0 = wi at *
              generalize Ks.getD i 0 = ki at *
              generalize roundTo Ks (schedTo bs 64) s i = r at *
              have i0 : (0 : Int) ≤ (i : Int) := Int.natCast_nonneg _
              have i1 : (i : Int) < 64 := by omega
              have hd : decide ((i : Int) < 64) = true := by simp; omega
              obtain ⟨⟨ra0, ra1⟩, ⟨rb0, rb1⟩, ⟨rc0, rc1⟩, ⟨rd0, rd1⟩, ⟨re0, re1⟩, ⟨rf0, rf1⟩, ⟨rg0, rg1⟩, ⟨rh0, rh1⟩⟩ := hR
              go_upto_region 15 with fail
              go_cut [18] (fun v wx => Is (tOf ki wi r) wr v wx)
              case first =>
                go_quiet ((go_at_call 168; exact Calls.quiet_of (la1_any r.e _ re0 re1)))
                go_wp2_with fail
                go_meet
                exact ⟨by rw [t_flat], _, rfl⟩
              case rest =>
                obtain ⟨rfl, n1, rfl⟩ := hcut
                go_upto_region 16 with fail
                go_cut [19] (fun v wx => Is (uOf r) wr v wx)
                case first =>
                  go_wp2_with fail
                  refine (la0_any r.a _ ra0 ra1).mono ?_
                  rintro e w' ⟨rfl, q, rfl⟩
                  go_wp2_with fail
                  go_meet
                  exact ⟨rfl, _, rfl⟩
                case rest =>
                  obtain ⟨rfl, n2, rfl⟩ := hcut
                  have ND := Lib.hid (show rnd ki wi r = ⟨(tOf ki wi r + uOf r) % 4294967296, r.a, r.b, r.c, (r.d + tOf ki wi r) % 4294967296, r.e, r.f, r.g⟩ from rfl)
                  generalize tOf ki wi r = t at *
                  generalize uOf r = u at *
                  clear ak a5
                  go_wp2_with fail
                  go_roundw
                  case rel =>
                    refine ⟨i + 1, by omega, by go_num, ?_, HP.out.drewN _⟩
                    rw [NX.out, ND.out]
                    exact ⟨rfl, rfl, rfl, rfl, rfl, rfl, rfl, rfl⟩
                  case measure => simp [intOf]; omega
              -- ]]C
            · obtain rfl : i = 64 := by omega
              rw [show ((64 : Nat) : Int) = (64 : Int) from rfl]
              have c0 : wr.cell? ⟨w.heap.size, 0, none⟩ = some (.int .u32 s.a) := hP.r2.cell 0
              have c1 : wr.cell? ⟨w.heap.size, 1, none⟩ = some (.int .u32 s.b) := hP.r2.cell 1
              have c2 : wr.cell? ⟨w.heap.size, 2, none⟩ = some (.int .u32 s.c) := hP.r2.cell 2
              have c3 : wr.cell? ⟨w.heap.size, 3, none⟩ = some (.int .u32 s.d) := hP.r2.cell 3
              have c4 : wr.cell? ⟨w.heap.size, 4, none⟩ = some (.int .u32 s.e) := hP.r2.cell 4
              have c5 : wr.cell? ⟨w.heap.size, 5, none⟩ = some (.int .u32 s.f) := hP.r2.cell 5
              have c6 : wr.cell? ⟨w.heap.size, 6, none⟩ = some (.int .u32 s.g) := hP.r2.cell 6
              have c7 : wr.cell? ⟨w.heap.size, 7, none⟩ = some (.int .u32 s.h) := hP.r2.cell 7
              have TH := Lib.hid (show wr.there (w.heap.size + 1 + 1) 0 8 from hP.r4.there)
              have BD := Lib.hid (show blockS s bs = ⟨(s.a + (roundTo Ks (schedTo bs 64) s 64).a) % 4294967296, (s.b + (roundTo Ks (schedTo bs 64) s 64).b) % 4294967296, (s.c + (roundTo Ks (schedTo bs 64) s 64).c) % 4294967296, (s.d + (roundTo Ks (schedTo bs 64) s 64).d) % 4294967296, (s.e + (roundTo Ks (schedTo bs 64) s 64).e) % 4294967296, (s.f + (roundTo Ks (schedTo bs 64) s 64).f) % 4294967296, (s.g + (roundTo Ks (schedTo bs 64) s 64).g) % 4294967296, (s.h + (roundTo Ks (schedTo bs 64) s 64).h) % 4294967296⟩ from rfl)
              generalize roundTo Ks (schedTo bs 64) s 64 = r at *
              have KEY := Lib.hid (fun (b : St) => (show Row (wr.setCells (w.heap.size + 1 + 1) 0 (stV b).toList) (w.heap.size + 1 + 1) 150 (stV b).toList ∧ Below w.heap.size w (wr.setCells (w.heap.size + 1 + 1) 0 (stV b).toList) from
                ⟨hP.r4.setAll _ rfl, below_setCells (by omega) _ _ _ hP.bw⟩))
              clear hP HP
              go_wp2_with (with_reducible refine wpList_store_mid rfl 150 (.tmp 4) (.tmp 190) rfl (w.heap.size + 1 + 1) 0 _ rfl rfl ?ht ?hi ?h1 ?_)
              case ht => exact TH.out
              case hi => first | exact info28b | exact info28
              case h1 => simp [Value.oneCell']
              have K2 := KEY.out (blockS s bs)
              rw [BD.out] at K2 ⊢
              exact bodyPost_ret (results_cell rfl _ _ _ (w.heap.size + 1 + 1) _ _ rfl K2.1.range Tryz.underlying150 rfl info28) rfl ⟨rfl, K2.2⟩
end Go.Proofs.YtfhbpgickkibmaaGreatDoor
