/- Contracts: what message.Set calls, where no header has the name: copied, DeleteFunc, Insert. Contracts: message.full, slices.DeleteFunc without a hit, slices.Insert at the end, message.Drop without a hit. Contracts: message.Set where no header has the name. -/
import Derived.Test.YtcnkjgjimcddiaaGreatDoorEr
import Derived.Test.YtcnkjgjimcddiaaGreatDoorAe
import Derived.Test.YtcnkjgjimcddiaaGreatDoorEy
namespace Go.Proofs.YtcnkjgjimcddiaaGreatDoor
open Go.RowKit

/-- 'copy' of elements of any size, whole. -/
theorem run_copy_sz {P : Program} (w : World) (dT sT ty elem : TypeId) (b o n dCap sCap sz : Nat) (A : Option Addr) (cs : List Value)
    (hu : P.underlying dT = some (.slice elem)) (hs : (P.info? elem).map (·.size) = some sz) (hn : cs.length = n * sz) (hA : 0 < n * sz → ∃ a, A = some a ∧ ∀ j v, cs[j]? = some v → w.cell? (a.add j) = some v)
    (hc : ∀ j, j < cs.length → (w.cell? ⟨b, o + j, none⟩).isSome = true) (hf : ∀ j, j < cs.length → w.frozen? ⟨b, o + j, none⟩ = false) (h1 : ∀ v ∈ cs, v.oneCell' = true) :
    (Builtin.copy_ #[dT, sT] ty #[.slice (some ⟨b, o, none⟩) n dCap, .slice A n sCap]).run P w = .ok (goInt n) (w.setCells b o cs) := by
  have hst := run_storeCells_cells (P := P) b o cs 0 w (by simpa using hc) (by simpa using hf) h1
  cases hq : P.info? elem with
  | none => simp [hq] at hs
  | some i =>
    have hi : i.size = sz := by simpa [hq] using hs
    by_cases h0 : 0 < n * sz
    · obtain ⟨a, rfl, hsrc⟩ := hA h0
      have hl := run_loadCells_list (P := P) w a cs hsrc
      rw [hn] at hl
      simp [Builtin.copy_, run_underlying hu, Builtin.lenOf, Builtin.firstCells, sizeOf, typeInfo, hq, hi, hl, hst]
    · obtain rfl := List.eq_nil_of_length_eq_zero (show cs.length = 0 by omega)
      have hl : ∀ (x : Addr), (loadCells x 0).run P w = .ok #[] w := fun x => by simpa using run_loadCells_list (P := P) w x [] (by simp)
      have h00 : n * sz = 0 := by omega
      cases A <;> simp [Builtin.copy_, run_underlying hu, Builtin.lenOf, Builtin.firstCells, sizeOf, typeInfo, hq, hi, h00, storeCells, hl, World.setCells]
def mkH (n : Nat) : List Value := (madeCells #[.string ⟨#[]⟩, .string ⟨#[]⟩] (n * 2)).toList
theorem mkH_len (n : Nat) : (mkH n).length = n * 2 := by unfold mkH; simp [size_madeCells]
theorem exec_makeH {ρ : Operand → Value} {op : Oper} {x y : Operand} {n : Nat} {w : World} (ho : op.op = .makeSlice 48 x y) (h1 : ρ x = .int .i64 (n : Nat)) (h2 : ρ y = .int .i64 (n : Nat)) (hc : n ≤ 16000000) :
    (execOp ρ op).run Tryz.prog w = .ok (.value (.slice (some ⟨w.heap.size, 0, none⟩) n n)) (w.alloc (.cells (mkH n).toArray 45)) := by
  obtain ⟨i, hi, hz, hs, hb⟩ := infoH
  have hr := run_make (P := Tryz.prog) w 48 45 i _ Tryz.underlying48 hi hz .i64 .i64 n n (by omega) (by omega) (by rw [hb]; omega) (by omega)
  unfold execOp
  simp only [ho, h1, h2, Sem.run_bind, hr, Result.andThen_ok, Sem.run_pure, hs, Int.toNat_natCast]
  rfl
theorem hds_one (l : List (ByteArray × ByteArray)) : ∀ v ∈ hds l, v.oneCell' = true := fun v hv => by
  unfold hds at hv
  obtain ⟨h, _, hh⟩ := List.mem_flatMap.1 hv
  simp [hdC] at hh
  rcases hh with rfl | rfl <;> rfl
set_option maxRecDepth 100000 in
theorem bclone_nil (w : World) : Calls Tryz.prog 84 #[.slice none 0 0] w fun e w' => e = .returned (.slice none 0 0) ∧ w = w' := by
  have e1 := fun w => Lib.run_eql_slice_nil (P := Tryz.prog) w 49 5 none 0 0 0 0 Tryz.underlying49
  go_enter Tryz.func84, Tryz.ntmps84
  go_wp2_with fail
  go_ret
  exact ⟨rfl, rfl⟩
set_option maxRecDepth 100000 in
set_option maxHeartbeats 4000000 in
theorem copied_any (ms uri rsn : ByteArray) (code : Int) (A : Option Addr) (n c : Nat) (l : List (ByteArray × ByteArray)) (w : World) (hA : Rds w w.heap.size A (hds l)) (hn : l.length = n) (hN : n ≤ 16000000) :
    Calls Tryz.prog 63 #[.agg #[.string ms, .string uri, .int .i64 code, .string rsn, .slice A n c, .slice none 0 0]] w fun e w' => ∃ hb, e = .returned (.agg #[.string ms, .string uri, .int .i64 code, .string rsn, .slice (some ⟨hb, 0, none⟩) n n, .slice none 0 0]) ∧ Row w' hb 45 (hds l) ∧ w.heap.size ≤ hb ∧ Below w.heap.size w w' := by
  have HA := Lib.hid hA; have HN := Lib.hid hn
  clear hA hn
  have ST := Lib.hid (Mine.refl w)
  go_enter Tryz.func63, Tryz.ntmps63
  go_upto_region 1 with (fail)
  replace ST := Lib.hid (show Mine w ((w.alloc (.cells #[.string ms, .string uri, .int .i64 code, .string rsn, .slice A n c, .slice none 0 0] 51)).alloc (.cells #[.string ⟨#[]⟩, .string ⟨#[]⟩, .int .i64 0, .string ⟨#[]⟩, .slice none 0 0, .slice none 0 0] 51)) [(w.heap.size + 1, 51, [.string ⟨#[]⟩, .string ⟨#[]⟩, .int .i64 0, .string ⟨#[]⟩, .slice none 0 0, .slice none 0 0]), (w.heap.size, 51, [.string ms, .string uri, .int .i64 code, .string rsn, .slice A n c, .slice none 0 0])] [] by
    have h := (ST.out.alloc 51 [.string ms, .string uri, .int .i64 code, .string rsn, .slice A n c, .slice none 0 0]).alloc 51 [.string ⟨#[]⟩, .string ⟨#[]⟩, .int .i64 0, .string ⟨#[]⟩, .slice none 0 0, .slice none 0 0]
    rw [World.size_alloc] at h
    exact h)
  generalize (w.alloc (.cells #[.string ms, .string uri, .int .i64 code, .string rsn, .slice A n c, .slice none 0 0] 51)).alloc (.cells #[.string ⟨#[]⟩, .string ⟨#[]⟩, .int .i64 0, .string ⟨#[]⟩, .slice none 0 0, .slice none 0 0] 51) = W at *
  have k4 := (ST.out.row (i := 1) rfl).cell 4
  have k5 := (ST.out.row (i := 1) rfl).cell 5
  have f4 := (ST.out.row (i := 1) rfl).frozen 4
  have f5 := (ST.out.row (i := 1) rfl).frozen 5
  simp only [List.getElem?_cons_succ, List.getElem?_cons_zero] at k4 k5
  have HW := Lib.hid ((HA.out.below ST.out.bw).up ST.out.bw.size)
  have CP := Lib.hid (fun (W1 : World) (hb : Nat) (hR : Row W1 hb 45 (mkH n)) (hA1 : Rds W1 W1.heap.size A (hds l)) (ty : TypeId) => run_copy_sz (P := Tryz.prog) W1 48 48 ty 45 hb 0 n n c 2 A (hds l) Tryz.underlying48 (sizeH (.string ⟨#[]⟩) (.string ⟨#[]⟩)) (by rw [hds_len, HN.out])
    (fun h0 => by
      obtain ⟨b, o, e, _, hc⟩ := hA1 (by rw [hds_len, HN.out]; exact h0)
      exact ⟨_, e, fun j v hv => by rw [Addr.add_mid]; exact hc j v hv⟩)
    (fun j hj => by rw [Nat.zero_add, hR.cell, List.getElem?_eq_getElem (by rw [mkH_len]; rw [hds_len, HN.out] at hj; exact hj)]; rfl) (fun j _ => hR.frozen _) (hds_one l))
  go_upto_region 2 with (with_reducible refine wpList_value rfl _ _ (exec_makeH (n := n) rfl rfl rfl hN) ?_)
  replace ST := Lib.hid (show Mine w (W.alloc (.cells (mkH n).toArray 45)) ((W.heap.size, 45, mkH n) :: [(w.heap.size + 1, 51, [.string ⟨#[]⟩, .string ⟨#[]⟩, .int .i64 0, .string ⟨#[]⟩, .slice none 0 0, .slice none 0 0]), (w.heap.size, 51, [.string ms, .string uri, .int .i64 code, .string rsn, .slice A n c, .slice none 0 0])]) [] from ST.out.alloc 45 (mkH n))
  have BA := Lib.hid ((Below.refl W.heap.size W).alloc (Nat.le_refl _) (.cells (mkH n).toArray 45))
  have HW1 := Lib.hid ((HW.out.below BA.out).up BA.out.size)
  clear BA
  generalize W.alloc (.cells (mkH n).toArray 45) = W1 at *
  generalize W.heap.size = hb at *
  have k4 := (ST.out.row (i := 2) rfl).cell 4
  simp only [List.getElem?_cons_succ, List.getElem?_cons_zero] at k4
  have CQ := Lib.hid (CP.out W1 hb (ST.out.row (i := 0) rfl) HW1.out)
  clear CP HW HW1
  go_upto_region 3 with (with_reducible refine wpList_value rfl _ _ (exec_copy (vd := .slice (some ⟨hb, 0, none⟩) n n) (vs := .slice A n c) rfl rfl rfl (CQ.out _)) ?_)
  clear CQ k4
  replace ST := Lib.hid (show Mine w (W1.setCells hb 0 (hds l)) ((hb, 45, hds l) :: [(w.heap.size + 1, 51, [.string ⟨#[]⟩, .string ⟨#[]⟩, .int .i64 0, .string ⟨#[]⟩, .slice none 0 0, .slice none 0 0]), (w.heap.size, 51, [.string ms, .string uri, .int .i64 code, .string rsn, .slice A n c, .slice none 0 0])]) [] from mine_put ST.out (hds l) (i := 0) rfl (by rw [mkH_len, hds_len, HN.out]))
  generalize W1.setCells hb 0 (hds l) = W2 at *
  have k4 := (ST.out.row (i := 2) rfl).cell 4
  have f4 := (ST.out.row (i := 2) rfl).frozen 4
  simp only [List.getElem?_cons_succ, List.getElem?_cons_zero] at k4
  go_upto_region 4 with (fail)
  clear k4 f4
  replace ST := Lib.hid (show Mine w (W2.setCell ⟨w.heap.size, 4, none⟩ (.slice (some ⟨hb, 0, none⟩) n n)) ((hb, 45, hds l) :: [(w.heap.size + 1, 51, [.string ⟨#[]⟩, .string ⟨#[]⟩, .int .i64 0, .string ⟨#[]⟩, .slice none 0 0, .slice none 0 0]), (w.heap.size, 51, [.string ms, .string uri, .int .i64 code, .string rsn, .slice (some ⟨hb, 0, none⟩) n n, .slice none 0 0])]) [] from ST.out.setCell (i := 2) (off := 4) (.slice (some ⟨hb, 0, none⟩) n n) rfl rfl)
  generalize W2.setCell ⟨w.heap.size, 4, none⟩ (.slice (some ⟨hb, 0, none⟩) n n) = W3 at *
  have k5 := (ST.out.row (i := 2) rfl).cell 5
  have f5 := (ST.out.row (i := 2) rfl).frozen 5
  simp only [List.getElem?_cons_succ, List.getElem?_cons_zero] at k5
  go_upto_region 5 with (go_at_call 84; refine (bclone_nil _).mono ?_; rintro e w' ⟨rfl, rfl⟩)
  clear k5 f5
  replace ST := Lib.hid (show Mine w (W3.setCell ⟨w.heap.size, 5, none⟩ (.slice none 0 0)) ((hb, 45, hds l) :: [(w.heap.size + 1, 51, [.string ⟨#[]⟩, .string ⟨#[]⟩, .int .i64 0, .string ⟨#[]⟩, .slice none 0 0, .slice none 0 0]), (w.heap.size, 51, [.string ms, .string uri, .int .i64 code, .string rsn, .slice (some ⟨hb, 0, none⟩) n n, .slice none 0 0])]) [] from ST.out.setCell (i := 2) (off := 5) (.slice none 0 0) rfl rfl)
  generalize W3.setCell ⟨w.heap.size, 5, none⟩ (.slice none 0 0) = W4 at *
  have R1 := Lib.hid (ST.out.row (i := 2) rfl)
  go_wp2_with (first
    | (with_reducible refine wpList_loadR rfl 51 (.tmp 1) rfl R1.out rfl Tryz.underlying51 rfl (size6m _ _ _ _ _ _) ?_)
    | (with_reducible refine wpList_storeS ST.out 1 rfl 51 (.tmp 2) (.tmp 18) rfl [.string ms, .string uri, .int .i64 code, .string rsn, .slice (some ⟨hb, 0, none⟩) n n, .slice none 0 0] [(hb, 45, hds l), (w.heap.size + 1, 51, [.string ms, .string uri, .int .i64 code, .string rsn, .slice (some ⟨hb, 0, none⟩) n n, .slice none 0 0]), (w.heap.size, 51, [.string ms, .string uri, .int .i64 code, .string rsn, .slice (some ⟨hb, 0, none⟩) n n, .slice none 0 0])] rfl rfl rfl rfl (len6m _ _ _ _ _ _ _ _ _ _ _ _) (size6m _ _ _ _ _ _) (msg_one _ _ _ _ _ _) ?_))
  intro w9 S9
  go_wp2_with fail
  exact bodyPost_ret (results_cell rfl _ _ _ (w.heap.size + 1) [.string ms, .string uri, .int .i64 code, .string rsn, .slice (some ⟨hb, 0, none⟩) n n, .slice none 0 0] _ rfl (S9.out.row (i := 1) rfl).range Tryz.underlying51 rfl (size6m _ _ _ _ _ _)) rfl (by exact ⟨hb, rfl, S9.out.row (i := 0) rfl, S9.out.ge (i := 0) rfl, S9.out.bw⟩)
end Go.Proofs.YtcnkjgjimcddiaaGreatDoor
namespace Go.Proofs.YtcnkjgjimcddiaaGreatDoor
open Go.RowKit

theorem Mine.grown {w0 w w' : World} {L : List Blk} {FS : List (World → Prop)} {b : Nat} {T : TypeId} {vs : List Value} (h : Mine w0 w ((b, T, vs) :: L) FS) (hg : w.grownBy w' (some b)) : Mine w0 w' L FS := by
  have hb0 : w0.heap.size ≤ b := h.ge (i := 0) rfl
  have hnd := h.nd
  rw [List.map_cons, List.nodup_cons] at hnd
  refine ⟨h.bw.grown hg h.bw.size (fun k hk => by injection hk with hk; omega), fun r hr => ?_, hnd.2, fun G hG => ?_⟩
  · obtain ⟨h1, h2⟩ := h.rows r (List.mem_cons_of_mem _ hr)
    refine ⟨h1.heap (hg.block _ h1.lt (fun e => ?_)), h2⟩
    injection e with e
    exact hnd.1 (List.mem_map.2 ⟨r, hr, e⟩)
  · exact ((h.fs G hG).step ⟨hg.os, hg.tape, hg.output, hg.size, fun k hk hn => hg.block k hk (fun e => by
      injection e with e
      exact hn (by simp [e]))⟩).wider (fun k _ hk hm => hk (by simp [hm]))
def fullS (s : ByteArray) : ByteArray := match canonL (byteL s) with
  | some x => strOfNums x
  | none => s
set_option maxRecDepth 100000 in
theorem full_any (s : ByteArray) (w : World) (hM : s.size ≤ 4000000) (hS : SC w) : Calls Tryz.prog 52 #[.string s] w fun e w' => e = .returned (.string (fullS s)) ∧ Below w.heap.size w w' := by
  have CN := Lib.hid (nmcanon_any s w hM hS)
  have E := Lib.hid (show fullS s = match canonL (byteL s) with | some x => strOfNums x | none => s from rfl)
  generalize canonL (byteL s) = C at *
  generalize fullS s = X at *
  cases C with
  | none =>
    go_enter Tryz.func52, Tryz.ntmps52
    go_wp2_with fail
    refine CN.out.mono ?_
    rintro e w1 ⟨rfl, hb⟩
    have B1 := Lib.hid hb
    clear hb
    rw [show canonV none = .tuple #[.string ⟨#[]⟩, .int .u8 5] from rfl]
    go_wp2_with fail
    go_ret
    exact ⟨by rw [E.out]; rfl, B1.out⟩
  | some x =>
    go_enter Tryz.func52, Tryz.ntmps52
    go_wp2_with fail
    refine CN.out.mono ?_
    rintro e w1 ⟨rfl, hb⟩
    have B1 := Lib.hid hb
    clear hb
    rw [show canonV (some x) = .tuple #[.string (strOfNums x), .int .u8 0] from rfl]
    go_wp2_with fail
    go_ret
    exact ⟨by rw [E.out]; rfl, B1.out⟩
theorem hd_one2 (a b : ByteArray) : ∀ u ∈ [Value.string a, .string b], u.oneCell' = true := fun u hu => by
  simp at hu
  rcases hu with rfl | rfl <;> rfl
set_option maxRecDepth 100000 in
theorem deleteh_none (A : Option Addr) (n c eb cb : Nat) (l : List (ByteArray × ByteArray)) (C : Option (List Int)) (w : World) (hA : Rds w w.heap.size A (hds l)) (hn : l.length = n) (hN : n ≤ 16000000) (hl : ∀ h ∈ l, h.1.size ≤ 4000000) (hS : SC w) (hM : NM w eb cb C) (hC : ∀ c, C = some c → By c) (h0 : l.findIdx? (hitN C) = none) :
    Calls Tryz.prog 64 #[.slice A n c, nmV eb cb] w fun e w' => e = .returned (.slice A n c) ∧ Below w.heap.size w w' := by
  have IX := Lib.hid (indexh_any A n c eb cb l C w hA hn hN hl hS hM hC)
  rw [h0, show idxV none = .int .i64 (-1) from rfl] at IX
  clear hA hn hN hl hS hM hC h0
  unfold nmV at *
  go_enter Tryz.func64, Tryz.ntmps64
  go_wp2_with fail
  refine IX.out.mono ?_
  rintro e w1 ⟨rfl, hb⟩
  have B1 := Lib.hid hb
  clear hb
  go_wp2_with fail
  go_ret
  exact ⟨rfl, B1.out⟩
set_option maxRecDepth 100000 in
set_option maxHeartbeats 1000000 in
theorem inserth_end (hb n vb : Nat) (l : List (ByteArray × ByteArray)) (nm v : ByteArray) (w : World) (hr : Row w hb 45 (hds l)) (hn : l.length = n) (hN : n ≤ 16000000) (hv : Row w vb 45 [.string nm, .string v]) :
    Calls Tryz.prog 51 #[.slice (some ⟨hb, 0, none⟩) n n, .int .i64 n, .slice (some ⟨vb, 0, none⟩) 1 1] w fun e w' => ∃ g cap, e = .returned (.slice (some ⟨g, 0, none⟩) (n + 1 : Nat) cap) ∧ hb ≤ g ∧ Rds w' w'.heap.size (some ⟨g, 0, none⟩) (hds (l ++ [(nm, v)])) ∧ w.grownBy w' (some hb) := by
  have HV := Lib.hid hv
  have HO := Lib.hid (show w.ownsRow hb 45 2 (.slice (some ⟨hb, 0, none⟩) n n) n (hds l) from ⟨by rw [hds_len, hn], .inr ⟨hb, n, (hds l).toArray, rfl, Nat.le_refl _, hr, Nat.le_refl _, by unfold maxLen; omega, by simp [hds_len, hn], by rw [← hn, ← hds_len]; simp⟩⟩)
  have LT := Lib.hid hr.lt
  obtain ⟨i, hi, hz, hsz, hbt⟩ := infoH
  have HI := Lib.hid hi; have HZ := Lib.hid hz; have HS := Lib.hid hsz; have HT := Lib.hid hbt
  have LN := Lib.hid hn
  clear hr hv hi hz hsz hbt hn
  have hd : decide (n ≤ n) = true := by simp
  have i0 : (0 : Int) ≤ (n : Int) := by omega
  have H1 := Lib.hid (show ∀ (j : Nat) u, [Value.string nm, .string v][j]? = some u → w.cell? ((⟨vb, 0, none⟩ : Addr).add j) = some u from fun j u hu => by
    rw [Addr.add_mid, Nat.zero_add, HV.out.cell]
    exact hu)
  go_enter Tryz.func51, Tryz.ntmps51
  go_wp2_with (with_reducible refine wpList_append_own _ rfl (.tmp 23) (.tmp 24) 48 rfl hb 45 i (.agg #[.string ⟨#[]⟩, .string ⟨#[]⟩]) 2 32 Tryz.underlying48 HI.out HZ.out HS.out HT.out rfl (by decide) (.slice (some ⟨hb, 0, none⟩) n n) n (hds l) rfl HO.out ⟨vb, 0, none⟩ 1 1 [.string nm, .string v] rfl rfl H1.out (hd_one2 _ _) (by unfold maxLen; omega) (by omega) (Nat.le_of_lt LT.out) ?_)
  all_goals
    intro v' w' h1 h2 _
    obtain ⟨hl, h3⟩ := h1
    rcases h3 with ⟨_, h4⟩ | ⟨g, cap, cur, rfl, hg, hh, _, _, hs, ht⟩
    · exact absurd h4 (by omega)
    have RB := Lib.hid (show Rds w' w'.heap.size (some ⟨g, 0, none⟩) (hds (l ++ [(nm, v)])) from fun _ => ⟨g, 0, rfl, lt_of_block hh, fun j u hx => by
      rw [hds_snoc] at hx
      rw [Nat.zero_add, cell_of_row w' g j cur _ (0, 0) hh]
      have hj : j < (hds l ++ hdC (nm, v)).length := (List.getElem?_eq_some_iff.1 hx).1
      have hj2 : j < (n + 1) * 2 := by rw [List.length_append, hds_len, LN.out, show (hdC (nm, v)).length = 2 from rfl] at hj; omega
      have h2 : (cur.toList.take ((n + 1) * 2))[j]? = (hds l ++ hdC (nm, v))[j]? := by rw [ht]; rfl
      rw [List.getElem?_take, if_pos hj2, hx] at h2
      simpa using h2⟩)
    have GB := Lib.hid (show w.grownBy w' (some hb) from h2)
    have GE := Lib.hid hg
    clear h2 hl hg hh hs ht
    go_wp2_with fail
    go_ret
    exact ⟨g, cap, rfl, GE.out, RB.out, GB.out⟩
set_option maxRecDepth 100000 in
set_option maxHeartbeats 4000000 in
theorem drop_none (ms uri rsn nm : ByteArray) (code : Int) (A : Option Addr) (n c : Nat) (l : List (ByteArray × ByteArray)) (w : World) (hA : Rds w w.heap.size A (hds l)) (hn : l.length = n) (hN : n ≤ 16000000) (hl : ∀ h ∈ l, h.1.size ≤ 4000000) (hM : nm.size ≤ 4000000) (hS : SC w) (h0 : getH l (byteL nm) = none) :
    Calls Tryz.prog 50 #[.agg #[.string ms, .string uri, .int .i64 code, .string rsn, .slice A n c, .slice none 0 0], .string nm] w fun e w' => ∃ hb, e = .returned (.agg #[.string ms, .string uri, .int .i64 code, .string rsn, .slice (some ⟨hb, 0, none⟩) n n, .slice none 0 0]) ∧ Row w' hb 45 (hds l) ∧ w.heap.size ≤ hb ∧ Below w.heap.size w w' := by
  have HA := Lib.hid hA; have HN := Lib.hid hn; have HL := Lib.hid hl; have HS := Lib.hid hS
  have HC := Lib.hid (fun c (h : canonL (byteL nm) = some c) => canonL_by' (byteL_by nm) h)
  have HG := Lib.hid (show l.findIdx? (hitN (canonL (byteL nm))) = none from h0)
  have ND := Lib.hid (fun w h => named_any nm w hM h)
  generalize canonL (byteL nm) = C at *
  clear hA hn hl hS h0
  have ST := Lib.hid (Mine.refl w)
  go_enter Tryz.func50, Tryz.ntmps50
  go_upto_region 1 with (fail)
  replace ST := Lib.hid (show Mine w ((w.alloc (.cells #[.string ms, .string uri, .int .i64 code, .string rsn, .slice A n c, .slice none 0 0] 51)).alloc (.cells #[.string ⟨#[]⟩, .string ⟨#[]⟩, .int .i64 0, .string ⟨#[]⟩, .slice none 0 0, .slice none 0 0] 51)) [(w.heap.size + 1, 51, [.string ⟨#[]⟩, .string ⟨#[]⟩, .int .i64 0, .string ⟨#[]⟩, .slice none 0 0, .slice none 0 0]), (w.heap.size, 51, [.string ms, .string uri, .int .i64 code, .string rsn, .slice A n c, .slice none 0 0])] [] by
    have h := (ST.out.alloc 51 [.string ms, .string uri, .int .i64 code, .string rsn, .slice A n c, .slice none 0 0]).alloc 51 [.string ⟨#[]⟩, .string ⟨#[]⟩, .int .i64 0, .string ⟨#[]⟩, .slice none 0 0, .slice none 0 0]
    rw [World.size_alloc] at h
    exact h)
  generalize (w.alloc (.cells #[.string ms, .string uri, .int .i64 code, .string rsn, .slice A n c, .slice none 0 0] 51)).alloc (.cells #[.string ⟨#[]⟩, .string ⟨#[]⟩, .int .i64 0, .string ⟨#[]⟩, .slice none 0 0, .slice none 0 0] 51) = W at *
  have R1 := Lib.hid (ST.out.row (i := 1) rfl)
  go_wp2_with (with_reducible refine wpList_loadR rfl 51 (.tmp 2) rfl R1.out rfl Tryz.underlying51 rfl (size6m _ _ _ _ _ _) ?_)
  refine (copied_any ms uri rsn code A n c l W ((HA.out.below ST.out.bw).up ST.out.bw.size) HN.out hN).mono ?_
  rintro e W1 ⟨hb, rfl, hr, hge, hbl⟩
  replace ST := Lib.hid (ST.out.join hbl hge hr)
  clear hr hge hbl R1
  go_wp2_with (with_reducible refine wpList_storeS ST.out 2 rfl 51 (.tmp 2) (.tmp 6) rfl [.string ms, .string uri, .int .i64 code, .string rsn, .slice (some ⟨hb, 0, none⟩) n n, .slice none 0 0] ((hb, 45, hds l) :: [(w.heap.size + 1, 51, [.string ⟨#[]⟩, .string ⟨#[]⟩, .int .i64 0, .string ⟨#[]⟩, .slice none 0 0, .slice none 0 0]), (w.heap.size, 51, [.string ms, .string uri, .int .i64 code, .string rsn, .slice (some ⟨hb, 0, none⟩) n n, .slice none 0 0])]) rfl rfl rfl rfl (len6m _ _ _ _ _ _ _ _ _ _ _ _) (size6m _ _ _ _ _ _) (msg_one _ _ _ _ _ _) ?_)
  intro W2 S2
  replace ST := S2
  clear S2
  have HQ := Lib.hid (fun (w' : World) (hr : Row w' hb 45 (hds l)) => show Rds w' w'.heap.size (some ⟨hb, 0, none⟩) (hds l) from fun _ => ⟨hb, 0, rfl, hr.lt, fun j u hu => by rw [Nat.zero_add, hr.cell]; exact hu⟩)
  go_wp2_with fail
  replace ST := Lib.hid ST.out.drew
  have k4 := (ST.out.row (i := 2) rfl).cell 4
  have f4 := (ST.out.row (i := 2) rfl).frozen 4
  simp only [List.getElem?_cons_succ, List.getElem?_cons_zero] at k4
  go_region_with ((first
    | (go_at_call 49
       refine (ND.out _ (HS.out.below ST.out.bw)).mono ?_
       rintro e W3 ⟨hbl, eb, cb, rfl, hnm⟩
       have NM1 := Lib.hid hnm
       replace ST := Lib.hid (ST.out.call hbl)
       clear hbl hnm k4 f4
       have k4 := (ST.out.row (i := 2) rfl).cell 4
       have f4 := (ST.out.row (i := 2) rfl).frozen 4
       simp only [List.getElem?_cons_succ, List.getElem?_cons_zero] at k4)
    | (go_at_call 64
       refine (deleteh_none (some ⟨hb, 0, none⟩) n n _ _ l C _ (HQ.out _ (ST.out.row (i := 0) rfl)) HN.out hN HL.out (HS.out.below ST.out.bw) NM1.out HC.out HG.out).mono ?_
       rintro e W4 ⟨rfl, hbl⟩
       replace ST := Lib.hid (ST.out.call hbl)
       clear hbl k4 f4
       have k4 := (ST.out.row (i := 2) rfl).cell 4
       have f4 := (ST.out.row (i := 2) rfl).frozen 4
       simp only [List.getElem?_cons_succ, List.getElem?_cons_zero] at k4)))
  all_goals
    replace ST := Lib.hid (show Mine w (W4.setCell ⟨w.heap.size, 4, none⟩ (.slice (some ⟨hb, 0, none⟩) n n)) ((hb, 45, hds l) :: [(w.heap.size + 1, 51, [.string ⟨#[]⟩, .string ⟨#[]⟩, .int .i64 0, .string ⟨#[]⟩, .slice none 0 0, .slice none 0 0]), (w.heap.size, 51, [.string ms, .string uri, .int .i64 code, .string rsn, .slice (some ⟨hb, 0, none⟩) n n, .slice none 0 0])]) [] from ST.out.setCell (i := 2) (off := 4) (.slice (some ⟨hb, 0, none⟩) n n) rfl rfl)
    clear k4 f4
    generalize W4.setCell ⟨w.heap.size, 4, none⟩ (.slice (some ⟨hb, 0, none⟩) n n) = W5 at *
    have R1 := Lib.hid (ST.out.row (i := 2) rfl)
    go_wp2_with (first
      | (with_reducible refine wpList_loadR rfl 51 (.tmp 2) rfl R1.out rfl Tryz.underlying51 rfl (size6m _ _ _ _ _ _) ?_)
      | (with_reducible refine wpList_storeS ST.out 1 rfl 51 (.tmp 4) (.tmp 13) rfl [.string ms, .string uri, .int .i64 code, .string rsn, .slice (some ⟨hb, 0, none⟩) n n, .slice none 0 0] [(hb, 45, hds l), (w.heap.size + 1, 51, [.string ms, .string uri, .int .i64 code, .string rsn, .slice (some ⟨hb, 0, none⟩) n n, .slice none 0 0]), (w.heap.size, 51, [.string ms, .string uri, .int .i64 code, .string rsn, .slice (some ⟨hb, 0, none⟩) n n, .slice none 0 0])] rfl rfl rfl rfl (len6m _ _ _ _ _ _ _ _ _ _ _ _) (size6m _ _ _ _ _ _) (msg_one _ _ _ _ _ _) ?_))
    intro w9 S9
    go_wp2_with fail
    exact bodyPost_ret (results_cell rfl _ _ _ (w.heap.size + 1) [.string ms, .string uri, .int .i64 code, .string rsn, .slice (some ⟨hb, 0, none⟩) n n, .slice none 0 0] _ rfl (S9.out.row (i := 1) rfl).range Tryz.underlying51 rfl (size6m _ _ _ _ _ _)) rfl (by exact ⟨hb, rfl, S9.out.row (i := 0) rfl, S9.out.ge (i := 0) rfl, S9.out.bw⟩)
end Go.Proofs.YtcnkjgjimcddiaaGreatDoor
namespace Go.Proofs.YtcnkjgjimcddiaaGreatDoor
open Go.RowKit

def setL (l : List (ByteArray × ByteArray)) (nm v : ByteArray) : List (ByteArray × ByteArray) := l ++ [(fullS nm, v)]
set_option maxRecDepth 100000 in
set_option maxHeartbeats 4000000 in
theorem set_none (ms uri rsn nm v : ByteArray) (code : Int) (A : Option Addr) (n c : Nat) (l : List (ByteArray × ByteArray)) (w : World) (hA : Rds w w.heap.size A (hds l)) (hn : l.length = n) (hN : n ≤ 16000000) (hl : ∀ h ∈ l, h.1.size ≤ 4000000) (hM : nm.size ≤ 4000000) (hS : SC w) (h0 : getH l (byteL nm) = none) :
    Calls Tryz.prog 36 #[.agg #[.string ms, .string uri, .int .i64 code, .string rsn, .slice A n c, .slice none 0 0], .string nm, .string v] w fun e w' => ∃ g cap, e = .returned (.agg #[.string ms, .string uri, .int .i64 code, .string rsn, .slice (some ⟨g, 0, none⟩) (n + 1 : Nat) cap, .slice none 0 0]) ∧ Below w.heap.size w w' ∧ Rds w' w'.heap.size (some ⟨g, 0, none⟩) (hds (setL l nm v)) ∧ w.heap.size ≤ g := by
  have HA := Lib.hid hA; have HN := Lib.hid hn; have HL := Lib.hid hl; have HS := Lib.hid hS
  have H0 := Lib.hid h0
  have HC := Lib.hid (fun c (h : canonL (byteL nm) = some c) => canonL_by' (byteL_by nm) h)
  have HG := Lib.hid (show l.findIdx? (hitN (canonL (byteL nm))) = none from h0)
  have ND := Lib.hid (fun w h => named_any nm w hM h)
  have FU := Lib.hid (fun w h => full_any nm w hM h)
  have DR := Lib.hid (fun ms uri rsn code A n c l w a b d e f => drop_none ms uri rsn nm code A n c l w a b d e hM f)
  have SL := Lib.hid (show setL l nm v = l ++ [(fullS nm, v)] from rfl)
  generalize setL l nm v = l2 at *
  generalize fullS nm = fn at *
  generalize canonL (byteL nm) = C at *
  clear hA hn hl hS h0
  have ST := Lib.hid (Mine.refl w)
  go_enter Tryz.func36, Tryz.ntmps36
  go_upto_region 1 with (fail)
  replace ST := Lib.hid (show Mine w ((w.alloc (.cells #[.string ms, .string uri, .int .i64 code, .string rsn, .slice A n c, .slice none 0 0] 51)).alloc (.cells #[.string ⟨#[]⟩, .string ⟨#[]⟩, .int .i64 0, .string ⟨#[]⟩, .slice none 0 0, .slice none 0 0] 51)) [(w.heap.size + 1, 51, [.string ⟨#[]⟩, .string ⟨#[]⟩, .int .i64 0, .string ⟨#[]⟩, .slice none 0 0, .slice none 0 0]), (w.heap.size, 51, [.string ms, .string uri, .int .i64 code, .string rsn, .slice A n c, .slice none 0 0])] [] by
    have h := (ST.out.alloc 51 [.string ms, .string uri, .int .i64 code, .string rsn, .slice A n c, .slice none 0 0]).alloc 51 [.string ⟨#[]⟩, .string ⟨#[]⟩, .int .i64 0, .string ⟨#[]⟩, .slice none 0 0, .slice none 0 0]
    rw [World.size_alloc] at h
    exact h)
  generalize (w.alloc (.cells #[.string ms, .string uri, .int .i64 code, .string rsn, .slice A n c, .slice none 0 0] 51)).alloc (.cells #[.string ⟨#[]⟩, .string ⟨#[]⟩, .int .i64 0, .string ⟨#[]⟩, .slice none 0 0, .slice none 0 0] 51) = W at *
  go_cut [7] (fun v7 wx => v7 = .int .i64 (-1) ∧ Mine w wx [(w.heap.size + 1, 51, [.string ⟨#[]⟩, .string ⟨#[]⟩, .int .i64 0, .string ⟨#[]⟩, .slice none 0 0, .slice none 0 0]), (w.heap.size, 51, [.string ms, .string uri, .int .i64 code, .string rsn, .slice A n c, .slice none 0 0])] [])
  case first =>
    replace ST := Lib.hid ST.out.drew
    have k4 := (ST.out.row (i := 1) rfl).cell 4
    have f4 := (ST.out.row (i := 1) rfl).frozen 4
    simp only [List.getElem?_cons_succ, List.getElem?_cons_zero] at k4
    go_region_with ((first
      | (go_at_call 49
         refine (ND.out _ (HS.out.below ST.out.bw)).mono ?_
         rintro e W3 ⟨hbl, eb, cb, rfl, hnm⟩
         have NM1 := Lib.hid hnm
         replace ST := Lib.hid (ST.out.call hbl)
         clear hbl hnm k4 f4
         have k4 := (ST.out.row (i := 1) rfl).cell 4
         have f4 := (ST.out.row (i := 1) rfl).frozen 4
         simp only [List.getElem?_cons_succ, List.getElem?_cons_zero] at k4)
      | (go_at_call 48
         refine (indexh_any A n c _ _ l C _ ((HA.out.below ST.out.bw).up ST.out.bw.size) HN.out hN HL.out (HS.out.below ST.out.bw) NM1.out HC.out).mono ?_
         rintro e W4 ⟨rfl, hbl⟩
         rw [HG.out]
         replace ST := Lib.hid (ST.out.call hbl)
         clear hbl k4 f4
         have k4 := (ST.out.row (i := 1) rfl).cell 4
         have f4 := (ST.out.row (i := 1) rfl).frozen 4
         simp only [List.getElem?_cons_succ, List.getElem?_cons_zero] at k4)))
    all_goals
      rw [show idxV none = .int .i64 (-1) from rfl]
      clear k4 f4
      go_wp2_with fail
      go_meet
      exact ⟨rfl, ST.out⟩
  case rest =>
    clear ST
    obtain ⟨rfl, hM⟩ := hcut
    obtain ⟨wx1, rfl⟩ : ∃ z : World, z = wc := ⟨_, rfl⟩
    have ST := Lib.hid hM
    clear hM
    have R1 := Lib.hid (ST.out.row (i := 1) rfl)
    go_wp2_with (with_reducible refine wpList_loadR rfl 51 (.tmp 3) rfl R1.out rfl Tryz.underlying51 rfl (size6m _ _ _ _ _ _) ?_)
    refine (DR.out ms uri rsn code A n c l _ ((HA.out.below ST.out.bw).up ST.out.bw.size) HN.out hN HL.out (HS.out.below ST.out.bw) H0.out).mono ?_
    rintro e W1 ⟨hb, rfl, hr, hge, hbl⟩
    have GE := Lib.hid (show w.heap.size + 1 < hb from Nat.lt_of_lt_of_le (ST.out.row (i := 0) rfl).lt hge)
    replace ST := Lib.hid (ST.out.join hbl hge hr)
    clear hr hge hbl R1
    go_wp2_with (with_reducible refine wpList_storeS ST.out 2 rfl 51 (.tmp 3) (.tmp 15) rfl [.string ms, .string uri, .int .i64 code, .string rsn, .slice (some ⟨hb, 0, none⟩) n n, .slice none 0 0] ((hb, 45, hds l) :: [(w.heap.size + 1, 51, [.string ⟨#[]⟩, .string ⟨#[]⟩, .int .i64 0, .string ⟨#[]⟩, .slice none 0 0, .slice none 0 0]), (w.heap.size, 51, [.string ms, .string uri, .int .i64 code, .string rsn, .slice (some ⟨hb, 0, none⟩) n n, .slice none 0 0])]) rfl rfl rfl rfl (len6m _ _ _ _ _ _ _ _ _ _ _ _) (size6m _ _ _ _ _ _) (msg_one _ _ _ _ _ _) ?_)
    intro W2 S2
    replace ST := S2
    clear S2
    have k4 := (ST.out.row (i := 2) rfl).cell 4
    have f4 := (ST.out.row (i := 2) rfl).frozen 4
    simp only [List.getElem?_cons_succ, List.getElem?_cons_zero] at k4
    go_upto_region 5 with (fail)
    replace ST := Lib.hid ST.out.drew
    clear k4 f4
    have k4 := (ST.out.row (i := 2) rfl).cell 4
    have f4 := (ST.out.row (i := 2) rfl).frozen 4
    simp only [List.getElem?_cons_succ, List.getElem?_cons_zero] at k4
    have k4b := ((ST.out.row (i := 2) rfl).alloc (.cells #[.string fn, .string v] 45)).cell 4
    simp only [List.getElem?_cons_succ, List.getElem?_cons_zero] at k4b
    go_region_with ((first
      | (go_at_call 52
         refine (FU.out _ (HS.out.below ST.out.bw)).mono ?_
         rintro e W3 ⟨rfl, hbl⟩
         replace ST := Lib.hid (ST.out.call hbl)
         clear hbl k4 f4 k4b
         have k4 := (ST.out.row (i := 2) rfl).cell 4
         have f4 := (ST.out.row (i := 2) rfl).frozen 4
         simp only [List.getElem?_cons_succ, List.getElem?_cons_zero] at k4
         have k4b := ((ST.out.row (i := 2) rfl).alloc (.cells #[.string fn, .string v] 45)).cell 4
         simp only [List.getElem?_cons_succ, List.getElem?_cons_zero] at k4b)
      | (go_at_call 51
         replace ST := Lib.hid (show Mine w (_root_.Go.World.alloc _ (.cells #[.string fn, .string v] 45)) ((_, 45, [.string fn, .string v]) :: (hb, 45, hds l) :: [(w.heap.size + 1, 51, [.string ⟨#[]⟩, .string ⟨#[]⟩, .int .i64 0, .string ⟨#[]⟩, .slice none 0 0, .slice none 0 0]), (w.heap.size, 51, [.string ms, .string uri, .int .i64 code, .string rsn, .slice (some ⟨hb, 0, none⟩) n n, .slice none 0 0])]) _ from ST.out.alloc 45 [.string fn, .string v])
         refine (inserth_end hb n _ l fn v _ (ST.out.row (i := 1) rfl) HN.out hN (ST.out.row (i := 0) rfl)).mono ?_
         rintro e W4 ⟨g, cap, rfl, hg, hrd, hgb⟩
         have RG := Lib.hid hrd; have GG := Lib.hid (show w.heap.size + 1 < g from Nat.lt_of_lt_of_le GE.out hg)
         replace ST := Lib.hid (ST.out.rest.grown hgb)
         clear hrd hg hgb k4 f4 k4b
         have k4 := (ST.out.row (i := 1) rfl).cell 4
         have f4 := (ST.out.row (i := 1) rfl).frozen 4
         simp only [List.getElem?_cons_succ, List.getElem?_cons_zero] at k4)))
    all_goals
      replace ST := Lib.hid (show Mine w (W4.setCell ⟨w.heap.size, 4, none⟩ (.slice (some ⟨g, 0, none⟩) (n + 1 : Nat) cap)) [(w.heap.size + 1, 51, [.string ⟨#[]⟩, .string ⟨#[]⟩, .int .i64 0, .string ⟨#[]⟩, .slice none 0 0, .slice none 0 0]), (w.heap.size, 51, [.string ms, .string uri, .int .i64 code, .string rsn, .slice (some ⟨g, 0, none⟩) (n + 1 : Nat) cap, .slice none 0 0])] _ from (ST.out.add (stab_rds RG.out (fun b o s e => by
        injection e with e
        injection e with e
        have := GG.out
        simp only [List.map_cons, List.map_nil, List.mem_cons, List.not_mem_nil, or_false]
        omega))).setCell (i := 1) (off := 4) (.slice (some ⟨g, 0, none⟩) (n + 1 : Nat) cap) rfl rfl)
      clear k4 f4 RG
      generalize W4.setCell ⟨w.heap.size, 4, none⟩ (.slice (some ⟨g, 0, none⟩) (n + 1 : Nat) cap) = W5 at *
      have R1 := Lib.hid (ST.out.row (i := 1) rfl)
      go_wp2_with (first
        | (with_reducible refine wpList_loadR rfl 51 (.tmp 3) rfl R1.out rfl Tryz.underlying51 rfl (size6m _ _ _ _ _ _) ?_)
        | (with_reducible refine wpList_storeS ST.out 0 rfl 51 (.tmp 6) (.tmp 31) rfl [.string ms, .string uri, .int .i64 code, .string rsn, .slice (some ⟨g, 0, none⟩) (n + 1 : Nat) cap, .slice none 0 0] [(w.heap.size + 1, 51, [.string ms, .string uri, .int .i64 code, .string rsn, .slice (some ⟨g, 0, none⟩) (n + 1 : Nat) cap, .slice none 0 0]), (w.heap.size, 51, [.string ms, .string uri, .int .i64 code, .string rsn, .slice (some ⟨g, 0, none⟩) (n + 1 : Nat) cap, .slice none 0 0])] rfl rfl rfl rfl (len6m _ _ _ _ _ _ _ _ _ _ _ _) (size6m _ _ _ _ _ _) (msg_one _ _ _ _ _ _) ?_))
      intro w9 S9
      go_wp2_with fail
      exact bodyPost_ret (results_cell rfl _ _ _ (w.heap.size + 1) [.string ms, .string uri, .int .i64 code, .string rsn, .slice (some ⟨g, 0, none⟩) (n + 1 : Nat) cap, .slice none 0 0] _ rfl (S9.out.row (i := 0) rfl).range Tryz.underlying51 rfl (size6m _ _ _ _ _ _)) rfl (by exact ⟨g, cap, rfl, S9.out.bw, by rw [SL.out]; exact S9.out.fact (i := 0) rfl, by have := GG.out; omega⟩)
end Go.Proofs.YtcnkjgjimcddiaaGreatDoor
