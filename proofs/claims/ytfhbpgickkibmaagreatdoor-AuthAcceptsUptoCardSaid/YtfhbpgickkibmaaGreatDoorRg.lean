/- slices.Backward over nonces: its contract as an iterator. The range over slices.Backward in auth's Verify. -/
import Derived.Test.YtfhbpgickkibmaaGreatDoorRd
import Derived.RangeFuncNested
import Derived.RangeFuncBound
import Derived.RangeFuncCalls
import Derived.RangeFuncLeaves
import Derived.Shelf.Abstract
import Derived.Shelf.RegionOpen
import Derived.WalkKit
import Derived.OwnWalkIn
import Derived.TacticsInMore
import Derived.LoopNIn
import Derived.LoopIn
namespace Go.Proofs.YtfhbpgickkibmaaGreatDoor
open Go.RowKit Go.Shelf

attribute [local go_sem] Oper.semAt_some
/-- What has come when k rounds are over. -/
def upB {α : Type} (f : Nat → α) (k : Nat) : List α := (List.range k).map f
theorem upB_succ {α : Type} (f : Nat → α) (k : Nat) : upB f (k + 1) = upB f k ++ [f k] := by simp [upB, List.range_succ]
theorem upB_len {α : Type} (f : Nat → α) (k : Nat) : (upB f k).length = k := by simp [upB]
def bkN (l : List Nce) (k : Nat) : Nat × Nce := (l.length - 1 - k, l.getD (l.length - 1 - k) ⟨⟨#[]⟩, 0, 0⟩)
def encN (x : Nat × Nce) : Array Value := #[.int .i64 (x.1 : Int), .agg #[.string x.2.v, .int .i64 x.2.a, .int .i64 x.2.k]]
set_option maxRecDepth 100000 in
theorem backward_in (A : Option Addr) (n c : Nat) (w : World) :
    Calls Tryz.prog 63 #[.slice A n c] w fun e w' => e = .returned (.func (.func 92) #[] #[.pointer (some ⟨w.heap.size, 0, none⟩)]) ∧ w' = w.alloc (.cells #[.slice A n c] 47) := by
  go_enter Tryz.func63, Tryz.ntmps63
  go_wp2_with fail
  go_ret
  exact ⟨rfl, rfl⟩
set_option maxRecDepth 100000 in
set_option maxHeartbeats 2000000 in
theorem back1_in (F : Fence) (n : Nat) (hF : F.fn 92) (hro : F.round = none) (hn : 1 ≤ n) (r Bs n₀ : Nat) (A : Option Addr) (en ec : Nat) (l : List Nce) (hl : l.length = en) (hen : en ≤ 2000000) (hBs : Bs < n₀) (J Jx : List (Nat × Nce) → World → Prop)
    (hY : ∀ pre x W, J pre W → pre.length < en → YieldAt F (n - 1) Tryz.prog r (encN x) W fun e W' =>
      (e = .returned (.bool true) ∧ J (pre ++ [x]) W' ∧ Below n₀ W W') ∨ (e = .returned (.bool false) ∧ Jx (pre ++ [x]) W'))
    (W : World) (hc : W.cell? ⟨Bs, 0, none⟩ = some (.slice A en ec)) (hA : Rds W n₀ A (ncs l)) (h0 : J [] W) :
    CallsIn F n Tryz.prog 92 #[.func (.yield r) #[] #[], .pointer (some ⟨Bs, 0, none⟩)] W fun e W' => (∃ v, e = .returned v) ∧
      ((∃ ys, ys = upB (bkN l) en ∧ J ys W') ∨ (∃ pre, (∃ k, k ≤ en ∧ pre = upB (bkN l) k) ∧ Jx pre W')) := by
  refine callsIn_of_wp Tryz.func92 rfl hF ?_ hro
  simp only [Tryz.ntmps92, List.size_toArray, List.length_cons, List.length_nil, Nat.reduceAdd, Nat.reduceSub, Array.replicate_succ, Array.replicate_zero, List.push_toArray, List.append_toArray, List.nil_append, List.cons_append]
  gi_wp2
  gi_loopw [3] (fun i wr => ∃ k : Nat, k ≤ en ∧ i = .int .i64 (((en - k : Nat) : Int) - 1) ∧ J (upB (bkN l) k) wr ∧ Below n₀ W wr) (fun i _ => (intOf i + 1).toNat)
  case atStart => exact ⟨0, Nat.zero_le _, rfl, h0, Below.refl _ _⟩
  case round =>
    obtain ⟨k, hk, rfl, hJs, hnx⟩ := hrel
    have hcx : wr.cell? ⟨Bs, 0, none⟩ = some (.slice A en ec) := (hnx.cell (p := ⟨Bs, 0, none⟩) hBs).trans hc
    by_cases hlt : k < en
    · obtain ⟨j, hj⟩ : ∃ j, en - k = j + 1 := ⟨en - k - 1, by omega⟩
      obtain ⟨p, hp⟩ : ∃ p, l[j]? = some p := ⟨_, List.getElem?_eq_getElem (by omega)⟩
      have hbk : bkN l k = (j, p) := by
        unfold bkN
        rw [show l.length - 1 - k = j by omega, List.getD_eq_getElem?_getD, hp]; rfl
      rw [hj, show (((j + 1 : Nat) : Int) - 1) = (j : Int) by omega]
      obtain ⟨x1, o1, rfl, hx1, hc1⟩ := hA (by rw [ncs_len]; omega)
      have e0 : wr.cell? ⟨x1, o1 + j * 3, none⟩ = some (.string p.v) := (hnx.cell (p := ⟨x1, _, none⟩) hx1).trans (hc1 _ _ (ncs_at hp 0 _ rfl))
      have e1 : wr.cell? ⟨x1, o1 + j * 3 + 1, none⟩ = some (.int .i64 p.a) := (hnx.cell (p := ⟨x1, _, none⟩) hx1).trans (by have := hc1 _ _ (ncs_at hp 1 _ rfl); rwa [← Nat.add_assoc] at this)
      have e2 : wr.cell? ⟨x1, o1 + j * 3 + 2, none⟩ = some (.int .i64 p.k) := (hnx.cell (p := ⟨x1, _, none⟩) hx1).trans (by have := hc1 _ _ (ncs_at hp 2 _ rfl); rwa [← Nat.add_assoc] at this)
      have i0 : (0 : Int) ≤ (j : Int) := by omega
      have i1 : (j : Int) < (en : Int) := by omega
      have j1 : decide ((0 : Int) ≤ (j : Int)) = true := by simp
      obtain ⟨fn, tmps, assign, body, hy, hR⟩ := hY _ (j, p) wr hJs (by rw [upB_len]; exact hlt)
      dsimp only [encN] at hy
      gi_wp2
      refine hR.mono ?_
      rintro e W3 (⟨rfl, hJ3, hk3⟩ | ⟨rfl, hJx3⟩)
      · gi_wp2
        go_roundw
        case rel => exact ⟨k + 1, by omega, by rw [show en - (k + 1) = j by omega], by rw [upB_succ, hbk]; exact hJ3, hnx.trans hk3⟩
        case measure => simp [intOf]
      · gi_wp2
        refine bodyPost_ret (results_none rfl _ _ _) rfl ?_
        exact ⟨⟨_, rfl⟩, .inr ⟨_, ⟨k + 1, by omega, by rw [upB_succ, hbk]⟩, hJx3⟩⟩
    · obtain rfl : k = en := by omega
      rw [show (((k - k : Nat) : Int) - 1) = -1 by omega]
      gi_wp2
      go_end0
      exact ⟨⟨_, rfl⟩, .inl ⟨_, rfl, hJs⟩⟩
theorem back_stops (F : Fence) (n : Nat) (hF : F.fn 92) (hro : F.round = none) (hn : 1 ≤ n) (Bs n₀ : Nat) (A : Option Addr) (en ec : Nat) (l : List Nce) (hl : l.length = en) (hen : en ≤ 2000000) (hBs : Bs < n₀) (w : World) (hn₀ : n₀ ≤ w.heap.size)
    (hc : w.cell? ⟨Bs, 0, none⟩ = some (.slice A en ec)) (hA : Rds w n₀ A (ncs l)) :
    SeqStopsK F n Tryz.prog 92 #[.pointer (some ⟨Bs, 0, none⟩)] encN (Below n₀) (fun ys => ys = upB (bkN l) en) (fun pre => ∃ k, k ≤ en ∧ pre = upB (bkN l) k) en w := fun r J Jx W hW _ _ hY h0 =>
  back1_in F n hF hro hn r Bs n₀ A en ec l hl hen hBs J Jx hY W (((hW.mono hn₀).cell (p := ⟨Bs, 0, none⟩) hBs).trans hc) (hA.below (hW.mono hn₀)) h0
end Go.Proofs.YtfhbpgickkibmaaGreatDoor
namespace Go.Proofs.YtfhbpgickkibmaaGreatDoor
open Go.RowKit Go.Shelf

attribute [local go_sem] Oper.semAt_some
theorem row_own {β : Type} (b : Nat) (T : TypeId) (f : β → List Value) : Own (fun s W => Row W b T (f s)) := fun s X Y row hs hg hrow =>
  (hg.block b hs.lt (fun e => by obtain ⟨o, ho, hc⟩ := hrow b e.symm; rw [show X.heap[b]? = _ from hs] at ho; cases ho; cases hc)).trans hs
theorem Row.put {w : World} {b D : Nat} {T : TypeId} {vs : List Value} {ds : Option (List Deferred)} {o : Obj} (h : Row w b T vs) (hD : w.heap[D]? = some (.deferred ds)) : Row (w.putObj D o) b T vs :=
  (World.putObj_heap_other (fun e => by subst e; rw [show w.heap[b]? = _ from h] at hD; cases hD)).trans h
theorem Rds.put {w : World} {A : Option Addr} {cs : List Value} {D : Nat} {ds : Option (List Deferred)} {o : Obj} (h : Rds w w.heap.size A cs) (hD : w.heap[D]? = some (.deferred ds)) : Rds (w.putObj D o) (w.putObj D o).heap.size A cs := fun hn => by
  obtain ⟨b, o', e, hb, hc⟩ := h hn
  refine ⟨b, o', e, by simpa [World.putObj] using hb, fun j u hu => cell_kept (hc j u hu) (grownBy_putObj' w D o) (fun r e => by cases e; exact ⟨_, hD, rfl⟩)⟩
theorem leavesM_ret1 {n D : Nat} {fn : Func} {a : Act} {w : World} {v : Value} {R : Ending → World → Prop} (hd : a.defers = [{ target := .collected D, args := #[] }]) (hD : w.heap[D]? = some (.deferred (some [])))
    (hr : (results fn a.tmps).run Tryz.prog (w.putObj D (.deferred none)) = .ok v (w.putObj D (.deferred none))) (hR : R (.returned v) (w.putObj D (.deferred none))) : bodyPostM Fence.wide n Tryz.prog fn R .ret a w := by
  show LeavesInM Fence.wide n Tryz.prog fn a.tmps R a.defers .returning w
  rw [hd]
  exact ⟨by simp, .inl ⟨_, _, rfl, run_takeDeferred hD, ⟨v, hr, hR⟩⟩⟩
/-- The index that the last round has handed. -/
def lastI (pre : List (Nat × Nce)) : Int := match pre.getLast? with | some x => (x.1 : Int) | none => 0
theorem lastI_snoc (pre : List (Nat × Nce)) (x : Nat × Nce) : lastI (pre ++ [x]) = (x.1 : Int) := by unfold lastI; rw [List.getLast?_concat]
theorem findB_upto {l : List Nce} {nn : ByteArray} : ∀ k, k ≤ l.length → (∀ x ∈ upB (bkN l) k, hitN nn x.2 = false) → findB l nn = findBk l nn (l.length - k)
  | 0, _, _ => rfl
  | k + 1, hk, h => by
    rw [upB_succ] at h
    rw [findB_upto k (by omega) (fun x hx => h x (List.mem_append_left _ hx))]
    obtain ⟨p, hp⟩ : ∃ p, l[l.length - 1 - k]? = some p := ⟨_, List.getElem?_eq_getElem (by omega)⟩
    have h2 := h (bkN l k) (List.mem_append_right _ (List.mem_singleton.2 rfl))
    unfold bkN at h2
    rw [List.getD_eq_getElem?_getD, hp] at h2
    rw [show l.length - k = l.length - 1 - k + 1 by omega, findBk_no hp h2, show l.length - (k + 1) = l.length - 1 - k by omega]
theorem findB_none {l : List Nce} {nn : ByteArray} (h : ∀ x ∈ upB (bkN l) l.length, hitN nn x.2 = false) : findB l nn = none := by
  rw [findB_upto l.length (Nat.le_refl _) h, Nat.sub_self]; rfl
theorem findB_some {l : List Nce} {nn : ByteArray} {k : Nat} {ini : List (Nat × Nce)} {x : Nat × Nce} (hk : k ≤ l.length) (he : ini ++ [x] = upB (bkN l) k) (h : ∀ y ∈ ini, hitN nn y.2 = false) (hx : hitN nn x.2 = true) : findB l nn = some x.1 := by
  cases k with
  | zero => exact absurd (congrArg List.length he) (by simp [upB])
  | succ k =>
    rw [upB_succ] at he
    obtain ⟨rfl, h2⟩ := List.append_inj' he rfl
    injection h2 with h3 _
    subst h3
    rw [findB_upto k (by omega) h]
    obtain ⟨p, hp⟩ : ∃ p, l[l.length - 1 - k]? = some p := ⟨_, List.getElem?_eq_getElem (by omega)⟩
    unfold bkN at hx
    rw [List.getD_eq_getElem?_getD, hp] at hx
    rw [show l.length - k = l.length - 1 - k + 1 by omega]
    exact findBk_yes hp hx
theorem heapD {w w' : World} {D : Nat} {o : Obj} (h : w.heap[D]? = some o) (hb : Below w.heap.size w w') : w'.heap[D]? = some o := (hb.block D (Array.getElem?_eq_some_iff.1 h).1).trans h
theorem findBk_lt {l : List Nce} {nn : ByteArray} {i : Nat} : ∀ k, findBk l nn k = some i → i < l.length
  | 0, h => by cases h
  | k + 1, h => by
    unfold findBk at h
    split at h
    · rename_i p hp
      split at h
      · injection h with h; subst h; exact (List.getElem?_eq_some_iff.1 hp).1
      · exact findBk_lt k h
    · exact findBk_lt k h
theorem VX.room {w wr : World} {A : Option Addr} {n c : Nat} {l : List Nce} (H : VX 76 3 w (.slice A n c) n (ncs l) wr) (h0 : 0 < n) :
    ∃ g, A = some ⟨g, 0, none⟩ ∧ w.heap.size ≤ g ∧ g < wr.heap.size ∧ (∀ o, wr.frozen? ⟨g, o, none⟩ = false) ∧ ∀ i u, (ncs l)[i]? = some u → wr.cell? ⟨g, i, none⟩ = some u := by
  rcases H.form with ⟨_, h, _⟩ | ⟨g, cap, e, _, hg, hlt, hcell⟩
  · omega
  · injection e with e1 _ _
    subst e1
    refine ⟨g, rfl, hg, hlt, fun o => ?_, hcell⟩
    rcases H.o.2 with ⟨e0, _⟩ | ⟨gb, gc, cur, e2, _, hblk, _⟩
    · cases e0
    · injection e2 with e3 _ _
      injection e3 with e4
      injection e4 with e5
      subst e5
      simp [World.frozen?, hblk]
def AllOff (nn : ByteArray) (pre : List (Nat × Nce)) : Prop := ∀ x ∈ pre, hitN nn x.2 = false
def Hits (nn : ByteArray) (pre : List (Nat × Nce)) : Prop := ∃ ini x, pre = ini ++ [x] ∧ AllOff nn ini ∧ hitN nn x.2 = true
set_option maxRecDepth 100000 in
set_option maxHeartbeats 4000000 in
theorem range25 (v0 v1 v2 v3 v4 v5 v6 v7 v8 v9 v10 v12 v13 v14 v15 v17 v18 v19 v20 v21 v22 v23 v24 v25 v26 v27 v28 v29 v30 v31 v32 v33 v34 v35 v36 v37 v38 v39 v40 v41 v42 v43 v44 v45 v46 v47 v48 v49 v50 v51 v52 v53 v54 v55 v56 v57 v58 v59 v60 v61 v62 v63 v64 v65 v66 v67 v68 v69 v70 v71 v72 v73 v74 v75 v76 v77 v78 v79 v80 v81 v82 v83 v84 v85 v86 v87 v88 v89 v91 v92 v93 v94 v95 v96 v97 v98 v99 v100 v101 v102 v103 v104 v105 v106 v107 v108 v109 v110 v111 v112 v113 v114 v115 v116 v117 v118 v119 v120 v121 v122 v123 v124 v125 v126 v127 v128 v129 v130 v131 v132 v133 v134 : Value) (bc : Nat) (A2 : Option Addr) (en c2 : Nat) (l : List Nce) (nn : ByteArray) (wx : World) (Q : Exit → Act → World → Prop)
    (hl : l.length = en) (hen : en ≤ 2000000) (hA : Rds wx wx.heap.size A2 (ncs l)) (hbc : bc < wx.heap.size) (hc : wx.cell? ⟨bc, 2, none⟩ = some (.string nn))
    (hK : ∀ (D : Nat) (X : World), wx.heap.size ≤ D → Below wx.heap.size wx X → Row X wx.heap.size 3 [idxV (findB l nn)] → X.heap[D]? = some (.deferred (some [])) →
      Q .normal { tmps := #[v0, v1, v2, v3, v4, v5, v6, v7, v8, v9, v10, .pointer (some ⟨bc, 0, none⟩), v12, v13, v14, v15, .pointer (some ⟨wx.heap.size, 0, none⟩), v17, v18, v19, v20, v21, v22, v23, v24, v25, v26, v27, v28, v29, v30, v31, v32, v33, v34, v35, v36, v37, v38, v39, v40, v41, v42, v43, v44, v45, v46, v47, v48, v49, v50, v51, v52, v53, v54, v55, v56, v57, v58, v59, v60, v61, v62, v63, v64, v65, v66, v67, v68, v69, v70, v71, v72, v73, v74, v75, v76, v77, v78, v79, v80, v81, v82, v83, v84, v85, v86, v87, v88, v89, .func (.func 92) #[] #[.pointer (some ⟨wx.heap.size + 1, 0, none⟩)], v91, v92, v93, v94, v95, v96, v97, v98, v99, v100, v101, v102, v103, v104, v105, v106, v107, v108, v109, v110, v111, v112, v113, v114, v115, v116, v117, v118, v119, v120, v121, v122, v123, v124, v125, v126, v127, v128, v129, v130, v131, v132, v133, v134], defers := [{ target := .collected D, args := #[] }] } X ∧ Q (.exit 2) { tmps := #[v0, v1, v2, v3, v4, v5, v6, v7, v8, v9, v10, .pointer (some ⟨bc, 0, none⟩), v12, v13, v14, v15, .pointer (some ⟨wx.heap.size, 0, none⟩), v17, v18, v19, v20, v21, v22, v23, v24, v25, v26, v27, v28, v29, v30, v31, v32, v33, v34, v35, v36, v37, v38, v39, v40, v41, v42, v43, v44, v45, v46, v47, v48, v49, v50, v51, v52, v53, v54, v55, v56, v57, v58, v59, v60, v61, v62, v63, v64, v65, v66, v67, v68, v69, v70, v71, v72, v73, v74, v75, v76, v77, v78, v79, v80, v81, v82, v83, v84, v85, v86, v87, v88, v89, .func (.func 92) #[] #[.pointer (some ⟨wx.heap.size + 1, 0, none⟩)], v91, v92, v93, v94, v95, v96, v97, v98, v99, v100, v101, v102, v103, v104, v105, v106, v107, v108, v109, v110, v111, v112, v113, v114, v115, v116, v117, v118, v119, v120, v121, v122, v123, v124, v125, v126, v127, v128, v129, v130, v131, v132, v133, v134], defers := [{ target := .collected D, args := #[] }] } X) :
    Code.wp Tryz.prog (Code.rangeFunc (Operand.tmp 90) #[91, 92]
      ((Code.region 19 #[{ dst := some 17, op := Op.assign (Operand.tmp 91), type := 3, pos := "auth.go:221", after := #[], guard := none }] false).seq
        (Code.region 20 #[{ dst := some 18, op := Op.alloc 76, type := 0, pos := "auth.go:221", after := #[], guard := none },
          { dst := none, op := Op.store 76 (Operand.tmp 18) (Operand.tmp 92), type := 0, pos := "auth.go:221", after := #[{ on := 0, ground := Ground.data }, { on := 0, ground := Ground.phase }], guard := none }] false))
      (Code.block 3
        ((Code.region 21 #[{ dst := some 93, op := Op.fieldAddr 76 (Operand.tmp 18) 0, type := 0, pos := "auth.go:222", after := #[], guard := none },
            { dst := some 94, op := Op.load 9 (Operand.tmp 93), type := 9, pos := "auth.go:222", after := #[{ on := 0, ground := Ground.data }], guard := none },
            { dst := some 95, op := Op.fieldAddr 23 (Operand.tmp 11) 2, type := 0, pos := "auth.go:222", after := #[], guard := none },
            { dst := some 96, op := Op.load 9 (Operand.tmp 95), type := 9, pos := "auth.go:222", after := #[{ on := 2, ground := Ground.data }], guard := none },
            { dst := some 97, op := Op.binOp BinOp.eql 9 (Operand.tmp 94) (Operand.tmp 96) 9, type := 4, pos := "auth.go:222", after := #[{ on := 1, ground := Ground.data }, { on := 3, ground := Ground.data }], guard := none }] false).seq
          (Code.cond (Operand.tmp 97)
            ((Code.region 22 #[{ dst := some 98, op := Op.move (Operand.tmp 17), type := 3, pos := "auth.go:223", after := #[], guard := none },
                { dst := none, op := Op.store 3 (Operand.tmp 16) (Operand.tmp 98), type := 0, pos := "auth.go:223", after := #[{ on := 0, ground := Ground.data }, { on := 0, ground := Ground.phase }], guard := none }] false).seq
              (Code.exit 2))
            Code.skip)))) Q { tmps := #[v0, v1, v2, v3, v4, v5, v6, v7, v8, v9, v10, .pointer (some ⟨bc, 0, none⟩), v12, v13, v14, v15, .pointer (some ⟨wx.heap.size, 0, none⟩), v17, v18, v19, v20, v21, v22, v23, v24, v25, v26, v27, v28, v29, v30, v31, v32, v33, v34, v35, v36, v37, v38, v39, v40, v41, v42, v43, v44, v45, v46, v47, v48, v49, v50, v51, v52, v53, v54, v55, v56, v57, v58, v59, v60, v61, v62, v63, v64, v65, v66, v67, v68, v69, v70, v71, v72, v73, v74, v75, v76, v77, v78, v79, v80, v81, v82, v83, v84, v85, v86, v87, v88, v89, .func (.func 92) #[] #[.pointer (some ⟨wx.heap.size + 1, 0, none⟩)], v91, v92, v93, v94, v95, v96, v97, v98, v99, v100, v101, v102, v103, v104, v105, v106, v107, v108, v109, v110, v111, v112, v113, v114, v115, v116, v117, v118, v119, v120, v121, v122, v123, v124, v125, v126, v127, v128, v129, v130, v131, v132, v133, v134], defers := [] } ((wx.alloc (.cells #[.int .i64 (-1)] 3)).alloc (.cells #[.slice A2 en c2] 47)) := by
  have R1 : Row ((wx.alloc (.cells #[.int .i64 (-1)] 3)).alloc (.cells #[.slice A2 en c2] 47)) wx.heap.size 3 [.int .i64 (-1)] := (Row.new wx 3 [.int .i64 (-1)]).alloc _
  have R2 : Row ((wx.alloc (.cells #[.int .i64 (-1)] 3)).alloc (.cells #[.slice A2 en c2] 47)) (wx.heap.size + 1) 47 [.slice A2 en c2] := by
    have h := Row.new (wx.alloc (.cells #[.int .i64 (-1)] 3)) 47 [.slice A2 en c2]
    rwa [World.size_alloc] at h
  have BW0 : Below wx.heap.size wx ((wx.alloc (.cells #[.int .i64 (-1)] 3)).alloc (.cells #[.slice A2 en c2] 47)) := ((Below.refl _ _).alloc (Nat.le_refl _) _).alloc (by simp) _
  have HS : ((wx.alloc (.cells #[.int .i64 (-1)] 3)).alloc (.cells #[.slice A2 en c2] 47)).heap.size = wx.heap.size + 2 := by simp
  generalize ((wx.alloc (.cells #[.int .i64 (-1)] 3)).alloc (.cells #[.slice A2 en c2] 47)) = W at *
  have HSl : wx.heap.size + 2 ≤ W.heap.size := Nat.le_of_eq HS.symm
  have HSr : W.heap.size ≤ wx.heap.size + 2 := Nat.le_of_eq HS
  clear HS
  refine (wpIn_wide (n := 9)).1 ?_
  refine wpIn_rangeFunc_ownH rfl (by omega) (gf := 92) (lb := #[.pointer (some ⟨wx.heap.size + 1, 0, none⟩)]) rfl trivial (enters_of Tryz.func92 (by kernel_rfl) rfl)
    (back_stops Fence.wide 8 trivial rfl (by omega) (wx.heap.size + 1) W.heap.size A2 en c2 l hl hen (by omega) W (Nat.le_refl _) (R2.cell 0) ((hA.below BW0).up (by omega))) belowK_t (belowK_b (Nat.le_refl _)) (Below.refl _ _) (fun _ => rfl)
    (fun pre X => (AllOff nn pre ∧ Row X wx.heap.size 3 [.int .i64 (-1)]) ∧ Below wx.heap.size W X)
    (fun c pre X => ((c = .exit 2 ∧ Hits nn pre) ∧ Row X wx.heap.size 3 [.int .i64 (lastI pre)]) ∧ Below wx.heap.size W X)
    (OwnFrom.and (OwnFrom.and (ownFrom_pure _ _) ((row_own wx.heap.size 3 (fun _ => [.int .i64 (-1)])).from _)) (ownFrom_below (by omega) (by omega)))
    (fun c => OwnFrom.and (OwnFrom.and (ownFrom_pure _ (fun pre => c = .exit 2 ∧ Hits nn pre)) ((row_own wx.heap.size 3 (fun pre => [.int .i64 (lastI pre)])).from _)) (ownFrom_below (by omega) (by omega)))
    ⟨⟨(fun x hx => absurd hx List.not_mem_nil), R1⟩, Below.refl _ _⟩
    (fun x a' X => ∃ Bx, (wx.heap.size < Bx ∧ a' = { tmps := #[v0, v1, v2, v3, v4, v5, v6, v7, v8, v9, v10, .pointer (some ⟨bc, 0, none⟩), v12, v13, v14, v15, .pointer (some ⟨wx.heap.size, 0, none⟩), .int .i64 (x.1 : Int), .pointer (some ⟨Bx, 0, none⟩), v19, v20, v21, v22, v23, v24, v25, v26, v27, v28, v29, v30, v31, v32, v33, v34, v35, v36, v37, v38, v39, v40, v41, v42, v43, v44, v45, v46, v47, v48, v49, v50, v51, v52, v53, v54, v55, v56, v57, v58, v59, v60, v61, v62, v63, v64, v65, v66, v67, v68, v69, v70, v71, v72, v73, v74, v75, v76, v77, v78, v79, v80, v81, v82, v83, v84, v85, v86, v87, v88, v89, .func (.func 92) #[] #[.pointer (some ⟨wx.heap.size + 1, 0, none⟩)], .int .i64 (x.1 : Int), .agg #[.string x.2.v, .int .i64 x.2.a, .int .i64 x.2.k], v93, v94, v95, v96, v97, v98, v99, v100, v101, v102, v103, v104, v105, v106, v107, v108, v109, v110, v111, v112, v113, v114, v115, v116, v117, v118, v119, v120, v121, v122, v123, v124, v125, v126, v127, v128, v129, v130, v131, v132, v133, v134], defers := [] }) ∧ Row X Bx 76 [.string x.2.v, .int .i64 x.2.a, .int .i64 x.2.k])
    (fun x a' s A B row hs hg hr => by
      obtain ⟨Bx, h1, h2⟩ := hs
      exact ⟨Bx, h1, row_own Bx 76 (fun (_ : Unit) => [.string x.2.v, .int .i64 x.2.a, .int .i64 x.2.k]) () A B row h2 hg (fun r e => (hr r e).2)⟩) ?assign ?body ?done ?stop
  case assign =>
    intro lp pre x X K hi hX
    obtain ⟨⟨h1, h2⟩, h3⟩ := hi
    have HN := Lib.hid (show Row (X.alloc (.cells #[.string x.2.v, .int .i64 x.2.a, .int .i64 x.2.k] 76)) X.heap.size 76 [.string x.2.v, .int .i64 x.2.a, .int .i64 x.2.k] from Row.new X 76 [.string x.2.v, .int .i64 x.2.a, .int .i64 x.2.k])
    have HX := Lib.hid hX; have H1 := Lib.hid h1; have H2 := Lib.hid h2; have H3 := Lib.hid h3
    have HLT := Lib.hid h2.lt
    clear hX h1 h2 h3 hK hl hA hc R1 R2 BW0
    dsimp only [encN, List.size_toArray]
    gi_wp2
    exact HX.out _ _ ((KeepsOthers.alloc _ _).from _) ((Below.refl _ X).alloc H3.out.size _) ⟨⟨H1.out, H2.out.alloc _⟩, H3.out.alloc (by have := H3.out.size; omega) _⟩ ⟨X.heap.size, ⟨HLT.out, rfl⟩, HN.out⟩
  case body =>
    intro lp pre x a' X hlp hrec hi hax hlt
    obtain ⟨⟨h1, h2⟩, h3⟩ := hi
    obtain ⟨Bx, ⟨hBx, rfl⟩, hR⟩ := hax
    have e1 : X.cell? ⟨Bx, 0, none⟩ = some (.string x.2.v) := hR.cell 0
    have e2 : X.cell? ⟨bc, 2, none⟩ = some (.string nn) := (h3.cell (p := ⟨bc, 2, none⟩) hbc).trans ((BW0.cell (p := ⟨bc, 2, none⟩) hbc).trans hc)
    have e3 : X.cell? ⟨wx.heap.size, 0, none⟩ = some (.int .i64 (-1)) := h2.cell 0
    have f3 := h2.frozen 0
    have H1 := Lib.hid h1; have H2 := Lib.hid h2; have H3 := Lib.hid h3
    clear h1 h2 h3 hR hK hl hA hc R1 R2 BW0 hrec hBx
    cases hq : hitN nn x.2 with
    | true =>
      have HQ := Lib.hid hq
      have hq2 : (x.2.v.toList == nn.toList) = true := hq
      clear hq
      gi_wp2
      exact ⟨(KeepsOthers.setCell _ _ _).from _, ⟨⟨rfl, pre, x, rfl, H1.out, HQ.out⟩, by rw [lastI_snoc]; exact H2.out.set 0 _⟩, H3.out.setCell (Nat.le_refl _) _⟩
    | false =>
      have HQ := Lib.hid hq
      have hq2 : (x.2.v.toList == nn.toList) = false := hq
      clear hq
      gi_wp2
      exact ⟨(KeepsOthers.refl _).from _, Below.refl _ _, ⟨fun y hy => by
        rcases List.mem_append.1 hy with h | h
        · exact H1.out y h
        · rw [List.mem_singleton.1 h]; exact HQ.out, H2.out⟩, H3.out⟩
  case done =>
    intro D ys X hD hys hi hX
    obtain ⟨⟨h1, h2⟩, h3⟩ := hi
    subst hys
    have hf : findB l nn = none := findB_none (by rw [hl]; exact h1)
    exact (hK D X (by omega) (belowK_t BW0 h3) (by rw [hf]; exact h2) hX).1
  case stop =>
    intro D c pre X hD hS hi hX
    obtain ⟨k, hk, rfl⟩ := hS
    obtain ⟨⟨⟨rfl, ini, x, he, h0, h1⟩, h2⟩, h3⟩ := hi
    have hf : findB l nn = some x.1 := findB_some (by omega) he.symm h0 h1
    rw [he, lastI_snoc] at h2
    have HK := Lib.hid (hK D X (by omega) (belowK_t BW0 h3) (by rw [hf]; exact h2) hX).2
    clear hK hl hA hc R1 R2 BW0 h2 h3 he h0 h1 hf hX
    gi_wp2
    exact HK.out
end Go.Proofs.YtfhbpgickkibmaaGreatDoor
