/- Contracts: the comparison of names, the closure of sorted, a clone of parameters. And what stands behind it. -/
import Derived.Test.YthfonniieaiocaaGreatDoorUe
import Derived.Test.YthfonniieaiocaaGreatDoorBn
import Derived.Test.YthfonniieaiocaaGreatDoorBd
import Derived.Shelf.SlSortCmp.InsertionK
set_option linter.unusedVariables false
set_option linter.unusedSimpArgs false
set_option maxRecDepth 100000
namespace Go.Proofs.YthfonniieaiocaaGreatDoor
open Go.RowKit

theorem less_bl : ∀ (x y : List UInt8), Op.bytesLess x y = ltL (bl x) (bl y)
  | [], [] => rfl
  | [], _ :: _ => rfl
  | _ :: _, [] => rfl
  | a :: x, b :: y => by
    rw [show bl (a :: x) = (a.toNat : Int) :: bl x from rfl, show bl (b :: y) = (b.toNat : Int) :: bl y from rfl]
    unfold Op.bytesLess ltL
    rw [less_bl x y]
    by_cases h1 : (a.toNat : Int) < (b.toNat : Int)
    · rw [if_pos h1]
      have : (decide (a < b)) = true := decide_eq_true (UInt8.lt_iff_toNat_lt.2 (by omega))
      rw [this]; rfl
    · rw [if_neg h1]
      have h2 : (decide (a < b)) = false := decide_eq_false (fun h => h1 (by have := UInt8.lt_iff_toNat_lt.1 h; omega))
      rw [h2, Bool.false_or]
      by_cases h3 : (b.toNat : Int) < (a.toNat : Int)
      · rw [if_pos h3]
        have : (a == b) = false := by
          rw [beq_eq_false_iff_ne]; rintro rfl; omega
        rw [this]; rfl
      · rw [if_neg h3]
        have : a = b := UInt8.toNat_inj.1 (by omega)
        rw [this]; simp
theorem less_byteL (x y : ByteArray) : Op.bytesLess x.toList y.toList = ltL (byteL x) (byteL y) := by
  rw [ByteArray.toList_eq, ByteArray.toList_eq, less_bl]; rfl
theorem less_num {x y : List Int} (hx : By x) (hy : By y) : Op.bytesLess (strOfNums x).toList (strOfNums y).toList = ltL x y := by rw [less_byteL, byteL_str hx, byteL_str hy]
def cmpL (x y : List Int) : Int := if ltL x y = true then -1 else if ltL y x = true then 1 else 0
theorem nan_any (s : ByteArray) (w : World) : Calls Tryz.prog 173 #[.string s] w fun e w' => e = .returned (.bool false) ∧ w = w' := by
  go_enter Tryz.func173, Tryz.ntmps173
  go_wp2
  go_ret
  exact ⟨rfl, rfl⟩
theorem cmpstr_any (x y : List Int) (w : World) (hx : By x) (hy : By y) : Calls Tryz.prog 138 #[.string (strOfNums x), .string (strOfNums y)] w fun e w' => e = .returned (.int .i64 (cmpL x y)) ∧ w = w' := by
  have N1 := kd (fun w => nan_any (strOfNums x) w)
  have N2 := kd (fun w => nan_any (strOfNums y) w)
  have l1 := less_num hx hy
  have q1 := getD_beq hx hy
  have E := kd (show cmpL x y = if ltL x y = true then -1 else if ltL y x = true then 1 else 0 from rfl)
  have T := kd (fun (h1 : ltL x y = false) (h2 : ltL y x = true) => show (x == y) = false by
    rw [beq_eq_false_iff_ne]; rintro rfl; rw [h1] at h2; cases h2)
  have T2 := kd (fun (h1 : ltL x y = false) (h2 : ltL y x = false) => show (x == y) = true by
    rw [ltL_tri h1 h2]; simp)
  generalize cmpL x y = R at *
  cases h1 : ltL x y with
  | true =>
    rw [h1] at l1
    have E2 := kd (show R = -1 by rw [E.out, h1]; rfl)
    clear q1 T T2 E h1
    go_enter Tryz.func138, Tryz.ntmps138
    go_wp2_with (first | (go_at_call 173; with_reducible refine (N1.out _).mono ?_; rintro e w' ⟨rfl, rfl⟩) | (go_at_call 173; with_reducible refine (N2.out _).mono ?_; rintro e w' ⟨rfl, rfl⟩))
    go_ret
    exact ⟨by rw [E2.out]; rfl, rfl⟩
  | false =>
    rw [h1] at l1
    cases h2 : ltL y x with
    | true =>
      have E2 := kd (show R = 1 by rw [E.out, h1, h2]; rfl)
      have q2 := q1.trans (T.out h1 h2)
      clear q1 T T2 E h1 h2
      go_enter Tryz.func138, Tryz.ntmps138
      go_wp2_with (first | (go_at_call 173; with_reducible refine (N1.out _).mono ?_; rintro e w' ⟨rfl, rfl⟩) | (go_at_call 173; with_reducible refine (N2.out _).mono ?_; rintro e w' ⟨rfl, rfl⟩))
      go_ret
      exact ⟨by rw [E2.out]; rfl, rfl⟩
    | false =>
      have E2 := kd (show R = 0 by rw [E.out, h1, h2]; rfl)
      have q2 := q1.trans (T2.out h1 h2)
      clear q1 T T2 E h1 h2
      go_enter Tryz.func138, Tryz.ntmps138
      go_wp2_with (first | (go_at_call 173; with_reducible refine (N1.out _).mono ?_; rintro e w' ⟨rfl, rfl⟩) | (go_at_call 173; with_reducible refine (N2.out _).mono ?_; rintro e w' ⟨rfl, rfl⟩))
      go_ret
      exact ⟨by rw [E2.out]; rfl, rfl⟩
theorem sortcl_any (p q : Pm) (w : World) (hp : By p.n) (hq : By q.n) : Calls Tryz.prog 137 #[.agg (pmC p).toArray, .agg (pmC q).toArray] w fun e w' => e = .returned (.int .i64 (cmpL p.n q.n)) ∧ w' = (w.alloc (.cells (pmC p).toArray 56)).alloc (.cells (pmC q).toArray 56) := by
  have CM := kd (fun w => cmpstr_any p.n q.n w hp hq)
  obtain ⟨pn, pv, ph⟩ := p
  obtain ⟨qn, qv, qh⟩ := q
  unfold pmC
  dsimp only at CM ⊢
  generalize cmpL pn qn = R at *
  have R0 := (Row.new w 56 [.string (strOfNums pn), .string (strOfNums pv), .bool ph]).alloc (.cells #[.string (strOfNums qn), .string (strOfNums qv), .bool qh] 56)
  have R1 := Row.new (w.alloc (.cells #[.string (strOfNums pn), .string (strOfNums pv), .bool ph] 56)) 56 [.string (strOfNums qn), .string (strOfNums qv), .bool qh]
  have k0 := R0.cell 0
  have k1 := R1.cell 0
  rw [World.size_alloc] at k1
  simp only [List.getElem?_cons_zero] at k0 k1
  clear R0 R1
  go_enter Tryz.func137, Tryz.ntmps137
  go_wp2_with (go_at_call 138; refine (CM.out _).mono ?_; rintro e w' ⟨rfl, rfl⟩)
  go_ret
  exact ⟨rfl, rfl⟩
theorem pms_one (l : List Pm) : ∀ u ∈ pms l, u.oneCell' = true := fun u hu => by
  obtain ⟨p, _, hp⟩ := List.mem_flatMap.1 hu
  exact pm_one _ _ _ u hp
theorem VX.newE (w : World) (T : TypeId) (sz : Nat) : VX T sz w (.slice (some ⟨w.heap.size, 0, none⟩) 0 0) 0 [] (w.alloc (.cells #[] T)) := by
  refine ⟨⟨by simp, .inr ⟨w.heap.size, 0, _, rfl, Nat.le_refl _, heap_alloc_new w _, ?_⟩⟩, (Below.refl _ _).alloc (Nat.le_refl _) _⟩
  simp
theorem clonep_any (A : Option Addr) (n c : Nat) (l : List Pm) (w : World) (hn : l.length = n) (hA : Rds w w.heap.size A (pms l)) (hnil : A = none → n = 0 ∧ c = 0) (hN : n ≤ 2000000) :
    Calls Tryz.prog 119 #[.slice A n c] w fun e w' => ∃ v, e = .returned v ∧ VX 56 3 w v n (pms l) w' := by
  have HN := kd hn; have HA := kd hA
  cases A with
  | none =>
    obtain ⟨rfl, rfl⟩ := hnil rfl
    obtain rfl : l = [] := List.eq_nil_of_length_eq_zero hn
    have e1 := fun w => Lib.run_eql_slice_nil (P := Tryz.prog) w 30 56 none 0 0 0 0 Tryz.underlying30
    clear hn hA hnil
    go_enter Tryz.func119, Tryz.ntmps119
    go_wp2_with fail
    go_ret
    exact ⟨_, rfl, VX.nil _ _ _⟩
  | some ad =>
    have e1 := fun w => Lib.run_eql_slice_nil (P := Tryz.prog) w 30 56 (some ad) n c 0 0 Tryz.underlying30
    have V0 := kd (VX.newE w 56 3)
    have HB1 := kd ((hA.below V0.out.bw).up V0.out.bw.size)
    obtain ⟨i, hi, hz, hsz, hbt⟩ := infoPm
    have HI := kd hi; have HZ := kd hz; have HS := kd hsz; have HT := kd hbt
    clear hn hA hnil hi hz hsz hbt
    go_enter Tryz.func119, Tryz.ntmps119
    go_wp2_with (with_reducible refine wpList_append_own _ rfl (.tmp 5) (.tmp 6) 30 rfl w.heap.size 56 i (.agg #[.string ⟨#[]⟩, .string ⟨#[]⟩, .bool false]) 3 40 Tryz.underlying30 HI.out HZ.out HS.out HT.out rfl (by decide) (.slice (some ⟨w.heap.size, 0, none⟩) 0 0) 0 [] rfl V0.out.o ad n c (pms l) rfl (by rw [pms_len, HN.out]) ?h1 (pms_one l) (by unfold maxLen; omega) (by omega) V0.out.bw.size ?h2)
    case h1 =>
      intro j u hu
      obtain ⟨b, o, e, _, hc⟩ := HB1.out (by have := (List.getElem?_eq_some_iff.1 hu).1; omega)
      cases e
      rw [Addr.add_mid]
      exact hc j u hu
    case h2 =>
      intro v' w' h1 h2 _
      have h3 : w'.ownsRow w.heap.size 56 3 v' n (pms l) := by simpa using h1
      have RB := kd (show VX 56 3 w v' n (pms l) w' from ⟨h3, V0.out.bw.grown h2 V0.out.bw.size (fun k hk => by simp [Value.ownBlock] at hk; omega)⟩)
      clear h1 h2 h3
      go_wp2_with fail
      go_ret
      exact ⟨_, rfl, RB.out⟩
end Go.Proofs.YthfonniieaiocaaGreatDoor
namespace Go.Proofs
open Go.Shelf
def Tryz.insK_ren : Go.Shelf.Ren := ⟨fun | 20 => 197 | n => n, fun | 24 => 56 | 22 => 30 | 3 => 3 | 25 => 144 | 4 => 4 | 0 => 0 | n => n, fun | n => n⟩
theorem Tryz.insK : Go.Proofs.SlLaysF0.n20 Tryz.prog Tryz.insK_ren := {
  mixed := by kernel_rfl
  f20 := ⟨Tryz.f197.name, by decide, Tryz.func197.trans (congrArg some (by kernel_rfl))⟩
  t0 := Tryz.underlying0
  a0 := Tryz.isAgg0
  z0 := Tryz.sizeOf0
  v0 := Tryz.zeroValue0
  t3 := Tryz.underlying3
  a3 := Tryz.isAgg3
  z3 := Tryz.sizeOf3
  v3 := Tryz.zeroValue3
  t4 := Tryz.underlying4
  a4 := Tryz.isAgg4
  z4 := Tryz.sizeOf4
  v4 := Tryz.zeroValue4
  t22 := Tryz.underlying30
  a22 := Tryz.isAgg30
  z22 := Tryz.sizeOf30
  v22 := Tryz.zeroValue30
  t25 := Tryz.underlying144
  a25 := Tryz.isAgg144
  z25 := Tryz.sizeOf144
  v25 := Tryz.zeroValue144 }
end Go.Proofs
namespace Go.Proofs.YthfonniieaiocaaGreatDoor
open Go.RowKit Go.Sort

abbrev PB := ByteArray × (ByteArray × Bool)
def encP (x : PB) : List Value := [.string x.1, .string x.2.1, .bool x.2.2]
def toPm (x : PB) : Pm := ⟨byteL x.1, byteL x.2.1, x.2.2⟩
def ofPm (p : Pm) : PB := (strOfNums p.n, (strOfNums p.v, p.h))
theorem encP_to (x : PB) : pmC (toPm x) = encP x := by unfold pmC toPm encP; rw [str_byteL, str_byteL]
theorem toPm_by (x : PB) : By (toPm x).n ∧ By (toPm x).v := ⟨byteL_by _, byteL_by _⟩
theorem pms_to (l : List PB) : pms (l.map toPm) = l.flatMap encP := by
  unfold pms
  rw [List.flatMap_map]
  congr 1
  funext x
  exact encP_to x
theorem to_of {l : List Pm} (h : PmBy l) : (l.map ofPm).map toPm = l := by
  rw [List.map_map]
  refine (List.map_congr_left fun p hp => ?_).trans (List.map_id _)
  obtain ⟨n, v, b⟩ := p
  have hb := h _ hp
  unfold toPm ofPm
  simp only [Function.comp, id]
  rw [byteL_str hb.1, byteL_str hb.2]
def cfP (x y : PB) : Int := cmpL (byteL x.1) (byteL y.1)
structure SV (w : World) (g n cap : Nat) (d : Array PB) (wr : World) : Prop where
  x : VX 56 3 w (.slice (some ⟨g, 0, none⟩) n cap) n (d.toList.flatMap encP) wr
  s : d.size = n
theorem flat_get (d : Array PB) {t : Nat} (ht : t < d.size * 3) : (d.toList.flatMap encP)[t]? = some (encP d[t / 3]!)[t % 3]! := by
  have h1 : t / 3 < d.size := by omega
  have h2 : d.toList[t / 3]? = some d[t / 3]! := by
    rw [Array.getElem?_toList, Array.getElem?_eq_getElem h1, getElem!_pos d (t / 3) h1]
  have h := flat_at encP 3 (fun _ => rfl) d.toList (t / 3) (t % 3) _ h2 (by omega)
  rw [show t / 3 * 3 + t % 3 = t by omega] at h
  have h3 : t % 3 < (encP d[t / 3]!).length := by show t % 3 < 3; omega
  rw [h, List.getElem?_eq_getElem h3, getElem!_pos (encP d[t / 3]!) (t % 3) h3]
theorem size_flat (d : Array PB) : (d.toList.flatMap encP).length = d.size * 3 := by
  rw [List.length_flatMap, show (d.toList.map fun a => (encP a).length) = d.toList.map (fun _ => 3) from List.map_congr_left fun _ _ => rfl]
  simp [List.map_const', Nat.mul_comm]
theorem SV.row {w wr : World} {g n cap : Nat} {d : Array PB} (h : SV w g n cap d wr) : ∃ cur : Array Value, wr.heap[g]? = some (.cells cur 56 (0, 0)) ∧ w.heap.size ≤ g ∧ n ≤ cap ∧ cap ≤ maxLen ∧ cur.size = cap * 3 ∧ cur.toList.take (n * 3) = d.toList.flatMap encP := by
  rcases h.x.o.2 with ⟨e, _⟩ | ⟨g2, cap2, cur, e, h1, h2, h3, h4, h5, h6⟩
  · cases e
  · injection e with e1 e2 e3
    injection e1 with e1
    injection e1 with e1
    subst e1; subst e3
    exact ⟨cur, h2, h1, h3, h4, h5, h6⟩
theorem SV.holds {w wr : World} {g n cap : Nat} {d : Array PB} (h : SV w g n cap d wr) : HoldsK encP 3 wr g 0 d := by
  obtain ⟨cur, h1, h2, h3, h4, h5, h6⟩ := h.row
  intro j hj
  rw [size_flatK] at hj
  have hn := h.s
  rw [Nat.zero_add]
  refine ⟨?_, by simp [World.frozen?, h1]⟩
  rw [cell_of_row wr g j cur _ (0, 0) h1]
  have e := flat_get d hj
  rw [← h6, List.getElem?_take, if_pos (by omega)] at e
  rw [← Array.getElem?_toList, e]
  congr 1
  have := get_flatK encP 3 d j hj
  rw [this]; rfl
theorem SV.put {w wr : World} {g n cap : Nat} {d d2 : Array PB} {m : Nat} {os : Array Obj} (h : SV w g n cap d wr) (hs : d2.size = d.size) : SV w g n cap d2 (sortWorldK encP 3 wr g 0 m d2 os) := by
  obtain ⟨cur, h1, h2, h3, h4, h5, h6⟩ := h.row
  have hlt : g < wr.heap.size := lt_of_block h1
  have hn : d2.size = n := hs.trans h.s
  have hh : ∀ k, k < wr.heap.size → (sortWorldK encP 3 wr g 0 m d2 os).heap[k]? = (mapBlock wr g (putCells id 0 (flatK encP 3 d2))).heap[k]? := fun k hk => by
    show ((mapBlock (Go.Sort.ahead wr m) g (putCells id 0 (flatK encP 3 d2))).heap ++ os)[k]? = _
    rw [Array.getElem?_append_left (by rw [show (mapBlock (Go.Sort.ahead wr m) g (putCells id 0 (flatK encP 3 d2))).heap.size = wr.heap.size from size_putRow id (Go.Sort.ahead wr m) g 0 _]; exact hk)]
    rfl
  have hg : (sortWorldK encP 3 wr g 0 m d2 os).heap[g]? = some (.cells (putCells id 0 (flatK encP 3 d2) cur) 56 (0, 0)) := by
    rw [hh g hlt]
    unfold mapBlock
    simp [Array.getElem?_modify, h1, onCells]
  refine ⟨⟨⟨by rw [size_flat, hn], .inr ⟨g, cap, _, rfl, h2, hg, h3, h4, by unfold putCells; rw [Array.size_mapIdx, h5], ?_⟩⟩, ?_⟩, hn⟩
  · refine List.ext_getElem? fun t => ?_
    rw [List.getElem?_take]
    split
    · rename_i ht
      rw [flat_get d2 (by rw [hn]; exact ht), Array.getElem?_toList]
      unfold putCells
      have hc : t < cur.size := by have := Nat.mul_le_mul_right 3 h3; omega
      rw [Array.getElem?_mapIdx, Array.getElem?_eq_getElem hc, Option.map_some, if_pos ⟨Nat.zero_le _, by rw [size_flatK]; omega⟩, Nat.sub_zero, get_flatK encP 3 d2 t (by rw [hn]; exact ht)]
      rfl
    · rw [List.getElem?_eq_none (by rw [size_flat, hn]; omega)]
  · refine ⟨h.x.bw.os, h.x.bw.tape, h.x.bw.output, Nat.le_trans h.x.bw.size (size_sortWorldK_c encP 3 wr g 0 m d2 os), fun k hk => ?_⟩
    have hkl : k < wr.heap.size := Nat.lt_of_lt_of_le hk h.x.bw.size
    rw [hh k hkl]
    have hne : g ≠ k := by omega
    refine Eq.trans ?_ (h.x.bw.block k hk)
    unfold mapBlock
    simp [Array.getElem?_modify, hne]
theorem cmpLays_p (g size : Nat) (w : World) : CmpLays Tryz.prog 137 #[] encP 3 cfP g 0 size w := fun m os dk _ x y => by
  have h := sortcl_any (toPm x) (toPm y) (sortWorldK encP 3 w g 0 m dk os) (toPm_by x).1 (toPm_by y).1
  rw [encP_to, encP_to] at h
  refine h.mono fun e w' h2 => ⟨h2.1, 0, #[.cells (encP x).toArray 56] ++ #[.cells (encP y).toArray 56], ?_⟩
  rw [h2.2, alloc_eq_grow, alloc_eq_grow, grow_grow]
  rfl
theorem lt_cf (x y : PB) : ltOf cfP x y = ltL (byteL x.1) (byteL y.1) := by
  unfold ltOf cfP cmpL
  cases h : ltL (byteL x.1) (byteL y.1) with
  | true => rfl
  | false =>
    rw [if_neg (by decide)]
    split <;> rfl
theorem swo_cf : SWO (ltOf cfP) where
  irrefl x := by rw [lt_cf]; exact ltL_irr _
  trans x y z h1 h2 := by
    rw [lt_cf] at *
    cases h : ltL (byteL x.1) (byteL z.1) with
    | true => rfl
    | false =>
      have a : leL (byteL z.1) (byteL x.1) = true := by unfold leL; rw [h]; rfl
      have b : leL (byteL x.1) (byteL y.1) = true := by unfold leL; rw [ltL_asym h1]; rfl
      have c := leL_trans a b
      unfold leL at c
      rw [h2] at c; cases c
  ntrans x y z h1 h2 := by
    rw [lt_cf] at *
    have a : leL (byteL y.1) (byteL x.1) = true := by unfold leL; rw [h1]; rfl
    have b : leL (byteL z.1) (byteL y.1) = true := by unfold leL; rw [h2]; rfl
    have c := leL_trans b a
    unfold leL at c
    simpa using c
theorem insort_any (w wr : World) (g n cap a b : Nat) (d : Array PB) (H : SV w g n cap d wr) (hab : a ≤ b) (hb : b ≤ n) (hn : n ≤ 16777216) :
    Calls Tryz.prog 197 #[.slice (some ⟨g, 0, none⟩) n cap, .int .i64 a, .int .i64 b, .func (.func 137) #[] #[]] wr fun e w2 => e = .returned (.tuple #[]) ∧ SV w g n cap (Go.Sort.insertionSort (ltOf cfP) d a b) w2 := by
  obtain ⟨cur, h1, h2, h3, h4, h5, h6⟩ := H.row
  have e := H.s
  have h := AnyQ.insertionSortCmpFunc Tryz.insK 3 Tryz.isAgg56 Tryz.sizeOf56 encP (fun _ => rfl) (fun x v hv => by
    simp [encP] at hv; rcases hv with rfl | rfl | rfl <;> rfl) cfP 137 #[] g 0 cap a b d wr (enters_of Tryz.func137 (by kernel_rfl) rfl) (cmpLays_p g d.size wr) H.holds (lt_of_block h1) hab (by omega) (by omega)
  rw [e] at h
  refine h.mono fun e2 w2 h7 => ⟨h7.1, ?_⟩
  obtain ⟨m, os, h8⟩ := h7.2
  rw [h8]
  exact H.put (insertionSort_holds swo_cf d a b hab (by omega)).1.1
open Go.RowKit

theorem insnil_any (w : World) : Calls Tryz.prog 197 #[.slice none 0 0, .int .i64 0, .int .i64 0, .func (.func 137) #[] #[]] w fun e w' => e = .returned (.tuple #[]) ∧ w = w' := by
  go_enter Tryz.func197, Tryz.ntmps197
  go_wp2
  go_loopw [8] (fun v wr => v = .int .i64 1 ∧ w = wr) (fun _ _ => 0)
  case atStart => exact ⟨rfl, rfl⟩
  case round =>
    obtain ⟨rfl, rfl⟩ := hrel
    go_wp2
    go_end0
    exact ⟨rfl, rfl⟩
def Srt (d d2 : Array PB) : Prop := d2.toList.Perm d.toList ∧ ∀ i j, i < j → j < d2.size → ltOf cfP d2[j]! d2[i]! = false
theorem srt_ins (d : Array PB) : Srt d (Go.Sort.insertionSort (ltOf cfP) d 0 d.size) := by
  obtain ⟨⟨h1, _, h3⟩, h4⟩ := Go.Sort.insertionSort_holds swo_cf d 0 d.size (Nat.zero_le _) (Nat.le_refl _)
  generalize Go.Sort.insertionSort (ltOf cfP) d 0 d.size = r at *
  refine ⟨?_, fun i j hij hj => h4 i j (Nat.zero_le _) hij (by rw [← h1]; exact hj)⟩
  have e1 : r.extract 0 d.size = r := by rw [← h1]; simp
  have e2 : d.extract 0 d.size = d := by simp
  rw [e1, e2] at h3
  exact h3
theorem srt_asc {d d2 : Array PB} (h : Srt d d2) : (d2.toList.map toPm).Perm (d.toList.map toPm) ∧ Asc (d2.toList.map toPm) := by
  refine ⟨h.1.map _, ?_⟩
  unfold Asc
  rw [List.pairwise_map, List.pairwise_iff_getElem]
  intro i j hi hj hij
  have := h.2 i j hij (by simpa using hj)
  rw [lt_cf, getElem!_pos d2 i (by simpa using hi), getElem!_pos d2 j (by simpa using hj)] at this
  unfold leL toPm
  simpa using this
theorem asc_sort {l m : List Pm} (hp : m.Perm l) (ha : Asc m) (hn : (l.map (·.n)).Nodup) : m = sortPm l := by
  rw [← sort_id ha]
  exact sort_one hp ((hp.map _).nodup_iff.2 hn)
def StR (w : World) (g n cap : Nat) (d d1 : Array PB) (v7 v8 : Value) (wx : World) : Prop := (v7 = .int .i64 0 ∧ v8 = .int .i64 20 ∧ Hid (SV w g n cap d wx)) ∨ (v7 = .int .i64 20 ∧ v8 = .int .i64 40 ∧ Hid (SV w g n cap d1 wx))
set_option maxHeartbeats 2000000 in
theorem stable_any (w wr : World) (g n cap : Nat) (d : Array PB) (H : SV w g n cap d wr) (hn : n ≤ 20) :
    Calls Tryz.prog 172 #[.slice (some ⟨g, 0, none⟩) n cap, .int .i64 n, .func (.func 137) #[] #[]] wr fun e w2 => e = .returned (.tuple #[]) ∧ ∃ d2, SV w g n cap d2 w2 ∧ Srt d d2 := by
  have HS := kd H
  have SI := kd (srt_ins d)
  have sz := H.s
  rw [sz] at SI
  clear H
  by_cases h20 : n = 20
  · have e2 : ∀ d1 : Array PB, Go.Sort.insertionSort (ltOf cfP) d1 20 n = d1 := fun d1 => by
      subst h20
      unfold Go.Sort.insertionSort
      unfold Go.Sort.insOuter
      rw [if_neg (by decide)]
    have e3 : Go.Sort.insertionSort (ltOf cfP) d 0 20 = Go.Sort.insertionSort (ltOf cfP) d 0 n := by rw [h20]
    have I1 := kd (fun w1 (h : SV w g n cap d w1) => insort_any w w1 g n cap 0 20 d h (by decide) (by omega) (by omega))
    have I2 := kd (fun w1 d1 (h : SV w g n cap d1 w1) => insort_any w w1 g n cap 20 n d1 h (by omega) (by omega) (by omega))
    rw [e3] at I1
    have E2 := kd e2
    clear e2 e3
    generalize Go.Sort.insertionSort (ltOf cfP) d 0 n = d1 at *
    have q1 : decide ((20 : Int) ≤ (n : Int)) = true := by simp; omega
    have q2 : decide ((40 : Int) ≤ (n : Int)) = false := by simp; omega
    have q3 : decide ((20 : Int) < (n : Int)) = false := by simp; omega
    clear h20
    go_enter Tryz.func172, Tryz.ntmps172
    go_wp2_with fail
    go_loopw [7, 8] (fun v7 v8 wx => StR w g n cap d d1 v7 v8 wx) (fun _ v _ => 60 - (intOf v).toNat)
    case atStart => exact .inl ⟨rfl, rfl, HS⟩
    case round =>
      clear HS
      rcases hrel with ⟨rfl, rfl, HS⟩ | ⟨rfl, rfl, HS⟩
      · go_wp2_with (go_at_call 197; refine (I1.out _ HS.out).mono ?_; rintro e w3 ⟨rfl, h3⟩; have H3 := kd h3; clear h3)
        go_roundw
        case rel => exact .inr ⟨rfl, rfl, H3⟩
        case measure => simp [intOf]
      · go_wp2_with (go_at_call 197; refine (I2.out _ _ HS.out).mono ?_; rintro e w3 ⟨rfl, h3⟩; have H3 := kd (show SV w g n cap d1 w3 by rw [E2.out] at h3; exact h3); clear h3)
        go_loopw [6, 7, 8, 9] (fun v6 _ _ _ wx => v6 = .int .i64 20 ∧ Hid (SV w g n cap d1 wx)) (fun _ _ _ _ _ => 0)
        case atStart => exact ⟨rfl, H3⟩
        case round =>
          clear H3
          obtain ⟨rfl, H3⟩ := hrel
          go_wp2_with fail
          go_end0
          exact ⟨rfl, d1, H3.out, SI.out⟩
  · have d0 : decide ((20 : Int) ≤ (n : Int)) = false := by simp; omega
    have d1 : decide ((20 : Int) < (n : Int)) = false := by simp; omega
    have I1 := kd (fun w1 (h : SV w g n cap d w1) => insort_any w w1 g n cap 0 n d h (Nat.zero_le _) (Nat.le_refl _) (by omega))
    generalize Go.Sort.insertionSort (ltOf cfP) d 0 n = d2 at *
    go_enter Tryz.func172, Tryz.ntmps172
    go_wp2_with fail
    go_loopw [7, 8] (fun v7 v8 wx => v7 = .int .i64 0 ∧ v8 = .int .i64 20 ∧ Hid (SV w g n cap d wx)) (fun _ _ _ => 0)
    case atStart => exact ⟨rfl, rfl, HS⟩
    case round =>
      clear HS
      obtain ⟨rfl, rfl, HS⟩ := hrel
      go_wp2_with (go_at_call 197; refine (I1.out _ HS.out).mono ?_; rintro e w3 ⟨rfl, h3⟩; have H3 := kd h3; clear h3)
      go_loopw [6, 7, 8, 9] (fun v6 _ _ _ wx => v6 = .int .i64 20 ∧ Hid (SV w g n cap d2 wx)) (fun _ _ _ _ _ => 0)
      case atStart => exact ⟨rfl, H3⟩
      case round =>
        clear H3
        obtain ⟨rfl, H3⟩ := hrel
        go_wp2_with fail
        go_end0
        exact ⟨rfl, d2, H3.out, SI.out⟩
theorem stablenil_any (w : World) : Calls Tryz.prog 172 #[.slice none 0 0, .int .i64 0, .func (.func 137) #[] #[]] w fun e w' => e = .returned (.tuple #[]) ∧ w = w' := by
  go_enter Tryz.func172, Tryz.ntmps172
  go_wp2_with fail
  go_loopw [7, 8] (fun v7 v8 wx => v7 = .int .i64 0 ∧ v8 = .int .i64 20 ∧ w = wx) (fun _ _ _ => 0)
  case atStart => exact ⟨rfl, rfl, rfl⟩
  case round =>
    obtain ⟨rfl, rfl, rfl⟩ := hrel
    go_wp2_with (go_at_call 197; refine (insnil_any _).mono ?_; rintro e w3 ⟨rfl, rfl⟩)
    go_loopw [6, 7, 8, 9] (fun v6 _ _ _ wx => v6 = .int .i64 20 ∧ w = wx) (fun _ _ _ _ _ => 0)
    case atStart => exact ⟨rfl, rfl⟩
    case round =>
      obtain ⟨rfl, rfl⟩ := hrel
      go_wp2_with fail
      go_end0
      exact ⟨rfl, rfl⟩
theorem sortst_any (w wr : World) (g n cap : Nat) (d : Array PB) (H : SV w g n cap d wr) (hn : n ≤ 20) :
    Calls Tryz.prog 136 #[.slice (some ⟨g, 0, none⟩) n cap, .func (.func 137) #[] #[]] wr fun e w2 => e = .returned (.tuple #[]) ∧ ∃ d2, SV w g n cap d2 w2 ∧ Srt d d2 := by
  have ST := kd (stable_any w wr g n cap d H hn)
  clear H
  go_enter Tryz.func136, Tryz.ntmps136
  go_wp2_with (go_at_call 172; refine ST.out.mono ?_; rintro e w3 ⟨rfl, h3⟩; have H3 := kd h3; clear h3)
  go_end0
  exact ⟨rfl, H3.out⟩
theorem sortstnil_any (w : World) : Calls Tryz.prog 136 #[.slice none 0 0, .func (.func 137) #[] #[]] w fun e w2 => e = .returned (.tuple #[]) ∧ w = w2 := by
  go_enter Tryz.func136, Tryz.ntmps136
  go_wp2_with (go_at_call 172; refine (stablenil_any _).mono ?_; rintro e w3 ⟨rfl, rfl⟩)
  go_end0
  exact ⟨rfl, rfl⟩
structure SoX (w : World) (l : List Pm) (v : Value) (m : List Pm) (w' : World) : Prop where
  x : VX 56 3 w v m.length (pms m) w'
  p : m.Perm l
  a : Asc m
theorem sv_of {w wr : World} {g n cap : Nat} {l : List Pm} (hl : PmBy l) (hn : l.length = n) (H : VX 56 3 w (.slice (some ⟨g, 0, none⟩) n cap) n (pms l) wr) : SV w g n cap (l.map ofPm).toArray wr := by
  refine ⟨?_, by simp [hn]⟩
  rw [← pms_to, to_of hl]
  exact H
theorem sorted_any (A : Option Addr) (n c : Nat) (l : List Pm) (w : World) (hn : l.length = n) (hA : Rds w w.heap.size A (pms l)) (hnil : A = none → n = 0 ∧ c = 0) (hN : n ≤ 20) (hl : PmBy l) :
    Calls Tryz.prog 73 #[.slice A n c] w fun e w' => ∃ v m, e = .returned v ∧ SoX w l v m w' := by
  have CL := kd (clonep_any A n c l w hn hA hnil (by omega))
  have HN := kd hn; have HL := kd hl
  clear hn hA hnil hl
  go_enter Tryz.func73, Tryz.ntmps73
  go_wp2_with fail
  refine CL.out.mono ?_
  clear CL
  rintro e w1 ⟨v, rfl, hv⟩
  rcases hv.form with ⟨rfl, h0, h1⟩ | ⟨g, cap, rfl, _⟩
  · subst h0
    have VB := kd hv
    have h2 := HN.out
    have L0 := kd (List.eq_nil_of_length_eq_zero h2)
    clear hv h1 h2
    go_wp2_with (go_at_call 136; refine (sortstnil_any _).mono ?_; rintro e w3 ⟨rfl, rfl⟩)
    go_ret
    refine ⟨_, [], rfl, ?_, ?_, List.Pairwise.nil⟩
    · have := VB.out; rw [L0.out] at this; exact this
    · rw [L0.out]
  · have SS := kd (sortst_any w w1 g n cap _ (sv_of HL.out HN.out hv) hN)
    clear hv
    go_wp2_with fail
    refine SS.out.mono ?_
    rintro e w3 ⟨rfl, d2, h2, h3⟩
    have H2 := kd h2
    have H3 := kd (srt_asc h3)
    clear h2 h3 SS
    go_wp2_with fail
    go_ret
    refine ⟨_, d2.toList.map toPm, rfl, ?_, ?_, H3.out.2⟩
    · rw [pms_to, List.length_map, Array.length_toList, H2.out.s]
      exact H2.out.x
    · have := H3.out.1
      rw [List.toList_toArray, to_of HL.out] at this
      exact this
end Go.Proofs.YthfonniieaiocaaGreatDoor
