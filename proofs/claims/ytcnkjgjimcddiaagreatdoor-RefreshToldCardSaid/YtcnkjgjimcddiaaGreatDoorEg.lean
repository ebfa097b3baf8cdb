/- Contracts: refresh's next, Next, Fire, Done, Start, and the reference's. Contracts: refresh's Fire, Done, Start, and the reference's. Contracts: refresh's Done, Start, and the reference's. -/
import Derived.Test.YtcnkjgjimcddiaaGreatDoorEb
import Derived.Test.YtcnkjgjimcddiaaGreatDoorEd
namespace Go.Proofs.YtcnkjgjimcddiaaGreatDoor
open Go.RowKit

theorem below_toN {N : Nat} {w w1 : World} (h : Below N w w1) (q : Nat) : Below N w (w1.drewN q) := ⟨h.os, h.tape, h.output, h.size, h.block⟩
def nextV (s : Int) (o : Bool) (t : Int) (p e : Bool) : Value := if mayR s o t p e = false ∨ s = 0 ∨ e = true then .tuple #[.int .i64 0, .bool false] else .tuple #[.int .i64 (nextR s o t p), .bool true]
def fireV (s : Int) (o : Bool) (t : Int) (p e : Bool) (now : Int) : Value :=
  if mayR s o t p e = false ∨ tmOK now = false then .tuple #[.agg #[.int .i64 0, .bool false, .int .i64 0, .bool false, .bool false], .int .u8 0, .int .u8 2]
  else if s = 0 ∨ e = true ∨ now < nextR s o t p then .tuple #[.agg #[.int .i64 s, .bool o, .int .i64 t, .bool p, .bool e], .int .u8 0, .int .u8 0]
  else if limR s t ≤ now then .tuple #[.agg #[.int .i64 s, .bool o, .int .i64 t, .bool false, .bool true], .int .u8 2, .int .u8 0]
  else .tuple #[.agg #[.int .i64 s, .bool o, .int .i64 t, .bool true, .bool e], .int .u8 1, .int .u8 0]
def doneV (s : Int) (o : Bool) (t : Int) (p e ok : Bool) (now : Int) : Value :=
  if mayR s o t p e = false ∨ tmOK now = false then .tuple #[.agg #[.int .i64 0, .bool false, .int .i64 0, .bool false, .bool false], .int .u8 0, .int .u8 2]
  else if s = 0 ∨ e = true ∨ (ok = false ∧ p = false) then .tuple #[.agg #[.int .i64 0, .bool false, .int .i64 0, .bool false, .bool false], .int .u8 0, .int .u8 9]
  else if ok = true then .tuple #[.agg #[.int .i64 s, .bool o, .int .i64 now, .bool false, .bool e], .int .u8 0, .int .u8 0]
  else .tuple #[.agg #[.int .i64 s, .bool o, .int .i64 t, .bool false, .bool true], .int .u8 2, .int .u8 0]
def startV (k s : Int) (c side : Bool) (now : Int) : Value :=
  if k ≠ 0 ∨ (s ≠ 0 ∧ ivl s = false) ∨ tmOK now = false then .tuple #[.agg #[.int .i64 0, .bool false, .int .i64 0, .bool false, .bool false], .int .u8 2]
  else if s = 0 then .tuple #[.agg #[.int .i64 0, .bool false, .int .i64 0, .bool false, .bool false], .int .u8 0]
  else .tuple #[.agg #[.int .i64 s, .bool (c == side), .int .i64 now, .bool false, .bool false], .int .u8 0]
theorem nextR_now {s t : Int} {o p : Bool} (h : o = true ∧ p = false) : nextR s o t p = t + 500 * s := by obtain ⟨rfl, rfl⟩ := h; rfl
theorem nextR_lim {s t : Int} {o p : Bool} (h : o = false ∨ p = true) : nextR s o t p = limR s t := by unfold nextR; rcases h with h | h <;> simp [h]
set_option maxRecDepth 100000 in
set_option maxHeartbeats 1000000 in
theorem nexta_any (s t : Int) (e : Bool) (w : World) (h0 : 0 ≤ s) (h1 : s ≤ 86400) (h2 : 0 ≤ t) (h3 : t ≤ 1099511627776) : Calls Tryz.prog 29 #[.agg #[.int .i64 s, .bool true, .int .i64 t, .bool false, .bool e]] w fun r w' => r = .returned (.int .i64 (t + 500 * s)) ∧ w' = w.alloc (.cells #[.int .i64 s, .bool true, .int .i64 t, .bool false, .bool e] 23) := by
  go_enter Tryz.func29, Tryz.ntmps29
  go_wp2_with fail
  all_goals go_ret
  all_goals exact ⟨ret_i64 (by omega), rfl⟩
set_option maxRecDepth 100000 in
set_option maxHeartbeats 1000000 in
theorem nextb_any (s t : Int) (o p e : Bool) (w : World) (hop : o = false ∨ p = true) (h0 : 0 ≤ s) (h1 : s ≤ 86400) (h2 : 0 ≤ t) (h3 : t ≤ 1099511627776) : Calls Tryz.prog 29 #[.agg #[.int .i64 s, .bool o, .int .i64 t, .bool p, .bool e]] w fun r w' => r = .returned (.int .i64 (limR s t)) ∧ ∃ q, w' = ((w.alloc (.cells #[.int .i64 s, .bool o, .int .i64 t, .bool p, .bool e] 23)).alloc (.cells #[.int .i64 s, .bool o, .int .i64 t, .bool p, .bool e] 23)).drewN q := by
  have L := Lib.hid (fun o p w => limit_any s t o p e w h0 h1 h2 h3)
  generalize limR s t = M at *
  cases o <;> cases p
  case true.false => rcases hop with h | h <;> cases h
  all_goals
    go_enter Tryz.func29, Tryz.ntmps29
    go_wp2_with (go_at_call 31; refine (L.out _ _ _).mono ?_; rintro e w' ⟨rfl, q, rfl⟩)
    all_goals go_ret
    all_goals exact ⟨rfl, _, rfl⟩
set_option maxRecDepth 100000 in
set_option maxHeartbeats 4000000 in
theorem nextt_any (s t : Int) (o p e : Bool) (w : World) : Calls Tryz.prog 12 #[.agg #[.int .i64 s, .bool o, .int .i64 t, .bool p, .bool e]] w fun r w' => r = .returned (nextV s o t p e) ∧ (Below w.heap.size w w') := by
  have V := Lib.hid (show nextV s o t p e = if mayR s o t p e = false ∨ s = 0 ∨ e = true then .tuple #[.int .i64 0, .bool false] else .tuple #[.int .i64 (nextR s o t p), .bool true] from rfl)
  generalize nextV s o t p e = X at *
  cases hm : mayR s o t p e with
  | false =>
    have E := Lib.hid (V.out.trans (if_pos (.inl hm)))
    have HM := Lib.hid hm
    clear hm V
    go_enter Tryz.func12, Tryz.ntmps12
    go_wp2_with (go_at_call 14; refine (mayt_any _ _ _ _ _ _).mono ?_; rintro e w' ⟨rfl, rfl⟩; rw [HM.out])
    all_goals go_ret2
    all_goals exact ⟨by rw [E.out]; rfl, by first | exact .inl rfl | exact .inr rfl | (repeat (first | exact Below.refl _ _ | refine below_toN ?_ _ | refine Below.alloc ?_ (by first | exact Nat.le_refl _ | (simp; done) | (simp; omega)) _ | refine Below.setCell ?_ (Nat.le_refl _) _))⟩
  | true =>
    obtain ⟨r0, r1, r2, r3⟩ := mayR_ranges hm
    have HM := Lib.hid hm
    by_cases hs : s = 0
    · have E := Lib.hid (V.out.trans (if_pos (.inr (.inl hs))))
      have hs' : (s == 0) = true := by simp [hs]
      clear hm V hs
      go_enter Tryz.func12, Tryz.ntmps12
      go_wp2_with (go_at_call 14; refine (mayt_any _ _ _ _ _ _).mono ?_; rintro e w' ⟨rfl, rfl⟩; rw [HM.out])
      all_goals go_ret2
      all_goals exact ⟨by rw [E.out]; rfl, by first | exact .inl rfl | exact .inr rfl | (repeat (first | exact Below.refl _ _ | refine below_toN ?_ _ | refine Below.alloc ?_ (by first | exact Nat.le_refl _ | (simp; done) | (simp; omega)) _ | refine Below.setCell ?_ (Nat.le_refl _) _))⟩
    · cases e with
      | true =>
        have E := Lib.hid (V.out.trans (if_pos (.inr (.inr rfl))))
        have hs' : (s == 0) = false := by simp [hs]
        clear hm V hs
        go_enter Tryz.func12, Tryz.ntmps12
        go_wp2_with (go_at_call 14; refine (mayt_any _ _ _ _ _ _).mono ?_; rintro e w' ⟨rfl, rfl⟩; rw [HM.out])
        all_goals go_ret2
        all_goals exact ⟨by rw [E.out]; rfl, by first | exact .inl rfl | exact .inr rfl | (repeat (first | exact Below.refl _ _ | refine below_toN ?_ _ | refine Below.alloc ?_ (by first | exact Nat.le_refl _ | (simp; done) | (simp; omega)) _ | refine Below.setCell ?_ (Nat.le_refl _) _))⟩
      | false =>
        have E := Lib.hid (V.out.trans (if_neg (by rintro (h | h | h); exact absurd (hm.symm.trans h) (by decide); exact hs h; cases h)))
        have hs' : (s == 0) = false := by simp [hs]
        clear hm V hs
        by_cases hop : o = true ∧ p = false
        · rw [nextR_now hop] at E
          obtain ⟨rfl, rfl⟩ := hop
          go_enter Tryz.func12, Tryz.ntmps12
          go_wp2_with (first | (go_at_call 14; refine (mayt_any _ _ _ _ _ _).mono ?_; rintro e w' ⟨rfl, rfl⟩; rw [HM.out]) | (go_at_call 29; refine (nexta_any _ _ _ _ r2 r3 r0 r1).mono ?_; rintro e w' ⟨rfl, rfl⟩))
          all_goals go_ret2
          all_goals exact ⟨by rw [E.out]; rfl, by first | exact .inl rfl | exact .inr rfl | (repeat (first | exact Below.refl _ _ | refine below_toN ?_ _ | refine Below.alloc ?_ (by first | exact Nat.le_refl _ | (simp; done) | (simp; omega)) _ | refine Below.setCell ?_ (Nat.le_refl _) _))⟩
        · have hop' : o = false ∨ p = true := by cases o <;> cases p <;> simp_all
          rw [nextR_lim hop'] at E
          go_enter Tryz.func12, Tryz.ntmps12
          go_wp2_with (first | (go_at_call 14; refine (mayt_any _ _ _ _ _ _).mono ?_; rintro e w' ⟨rfl, rfl⟩; rw [HM.out]) | (go_at_call 29; refine (nextb_any _ _ _ _ _ _ hop' r2 r3 r0 r1).mono ?_; rintro e w' ⟨rfl, q, rfl⟩))
          all_goals go_ret2
          all_goals exact ⟨by rw [E.out]; rfl, by first | exact .inl rfl | exact .inr rfl | (repeat (first | exact Below.refl _ _ | refine below_toN ?_ _ | refine Below.alloc ?_ (by first | exact Nat.le_refl _ | (simp; done) | (simp; omega)) _ | refine Below.setCell ?_ (Nat.le_refl _) _))⟩

end Go.Proofs.YtcnkjgjimcddiaaGreatDoor
namespace Go.Proofs.YtcnkjgjimcddiaaGreatDoor
open Go.RowKit

theorem sizeRf (a b c d e : Value) : (Tryz.prog.info? 23).map (·.size) = some [a, b, c, d, e].length := show (Tryz.prog.info? 23).map (·.size) = some 5 by kernel_rfl
theorem lenRf (a b c d e a' b' c' d' e' : Value) : [a, b, c, d, e].length = [a', b', c', d', e'].length := rfl
theorem rf_one (s t : Int) (o p e : Bool) : ∀ u ∈ [Value.int .i64 s, .bool o, .int .i64 t, .bool p, .bool e], u.oneCell' = true := fun u hu => by
  simp at hu
  rcases hu with rfl | rfl | rfl | rfl | rfl <;> rfl
theorem results_ctu {fn : Func} {t u v : Tmp} {ty : TypeId} (h : fn.results = #[.cell t ty, .tmp u, .tmp v]) (tmps : Array Value) (P : Program) (w : World) (b : Nat) (cs : List Value) (d : TypeDesc)
    (ht : tmps.getD t undef = .pointer (some ⟨b, 0, none⟩)) (hc : w.rangeAt b 0 cs) (hu : P.underlying ty = some d) (hd : d.isRow = true) (hi : (P.info? ty).map (·.size) = some cs.length) :
    (results fn tmps).run P w = .ok (.tuple #[.agg cs.toArray, tmps.getD u undef, tmps.getD v undef]) w := by
  have hl := run_loadVar_mid (P := P) w b 0 ty cs d hc hu hd hi
  simp only [results, h]
  simp [-Array.getD_eq_getD_getElem?, ht, asAddr, hl]
set_option maxRecDepth 100000 in
set_option maxHeartbeats 4000000 in
theorem fire_late (s t now : Int) (w : World) (hm : mayR s true t false false = true) (ht : tmOK now = true) (hs : ¬ s = 0) (hn : ¬ now < t + 500 * s) (hl : limR s t ≤ now) : Calls Tryz.prog 16 #[.agg #[.int .i64 s, .bool true, .int .i64 t, .bool false, .bool false], .int .i64 now] w fun r w' => r = .returned (.tuple #[.agg #[.int .i64 s, .bool true, .int .i64 t, .bool false, .bool true], .int .u8 2, .int .u8 0]) ∧ Below w.heap.size w w' := by
  obtain ⟨r0, r1, r2, r3⟩ := mayR_ranges hm
  have HM := Lib.hid hm
  have HT := Lib.hid ht
  have hs' : (s == 0) = false := by simp [hs]
  have d : decide (now < t + 500 * s) = false := by simpa using hn
  have d2 : decide (limR s t ≤ now) = true := by simp [hl]
  clear hm ht hs hn hl
  go_enter Tryz.func16, Tryz.ntmps16
  go_wp2_with (first | (go_at_call 14; refine (mayt_any _ _ _ _ _ _).mono ?_; rintro e w' ⟨rfl, rfl⟩; rw [HM.out]) | (go_at_call 26; refine (istime_any _ _).mono ?_; rintro e w' ⟨rfl, rfl⟩; rw [HT.out]))
  refine (nexta_any _ _ _ _ r2 r3 r0 r1).mono ?_
  rintro e w' ⟨rfl, rfl⟩
  go_wp2_with fail
  refine (limit_any _ _ _ _ _ _ r2 r3 r0 r1).mono ?_
  rintro e w' ⟨rfl, q, rfl⟩
  obtain ⟨W5, hW5⟩ : ∃ W5, W5 = (((((w.alloc (.cells #[.int .i64 s, .bool true, .int .i64 t, .bool false, .bool false] 23)).alloc (.cells #[.int .i64 0, .bool false, .int .i64 0, .bool false, .bool false] 23)).alloc (.cells #[.int .i64 s, .bool true, .int .i64 t, .bool false, .bool false] 23)).alloc (.cells #[.int .i64 s, .bool true, .int .i64 t, .bool false, .bool false] 23)).alloc (.cells #[.int .i64 s, .bool true, .int .i64 t, .bool false, .bool false] 23)).drewN q := ⟨_, rfl⟩
  rw [← hW5]
  have RB := Lib.hid (show Row W5 w.heap.size 23 [.int .i64 s, .bool true, .int .i64 t, .bool false, .bool false] by rw [hW5]; exact (((((Row.new w 23 [.int .i64 s, .bool true, .int .i64 t, .bool false, .bool false]).alloc _).alloc _).alloc _).alloc _).drewN q)
  have RZ := Lib.hid (show Row W5 (w.heap.size + 1) 23 [.int .i64 0, .bool false, .int .i64 0, .bool false, .bool false] by
    rw [hW5]
    have h := Row.new (w.alloc (.cells #[.int .i64 s, .bool true, .int .i64 t, .bool false, .bool false] 23)) 23 [.int .i64 0, .bool false, .int .i64 0, .bool false, .bool false]
    rw [World.size_alloc] at h
    exact (((h.alloc _).alloc _).alloc _).drewN q)
  have B5 := Lib.hid (show Below w.heap.size w W5 by rw [hW5]; (repeat (first | exact Below.refl _ _ | refine below_toN ?_ _ | refine Below.alloc ?_ (by first | exact Nat.le_refl _ | (simp; done) | (simp; omega)) _ | refine Below.setCell ?_ (Nat.le_refl _) _)))
  clear hW5
  have RB2 := Lib.hid (show Row ((W5.setCell ⟨w.heap.size, 4, none⟩ (.bool true)).setCell ⟨w.heap.size, 3, none⟩ (.bool false)) w.heap.size 23 [.int .i64 s, .bool true, .int .i64 t, .bool false, .bool true] from (RB.out.set 4 _).set 3 _)
  have RZ2 := Lib.hid (show Row ((W5.setCell ⟨w.heap.size, 4, none⟩ (.bool true)).setCell ⟨w.heap.size, 3, none⟩ (.bool false)) (w.heap.size + 1) 23 [.int .i64 0, .bool false, .int .i64 0, .bool false, .bool false] from (RZ.out.setOther (by omega) _).setOther (by omega) _)
  have B6 := Lib.hid (show Below w.heap.size w ((W5.setCell ⟨w.heap.size, 4, none⟩ (.bool true)).setCell ⟨w.heap.size, 3, none⟩ (.bool false)) from Below.setCell (p := ⟨w.heap.size, 3, none⟩) (Below.setCell (p := ⟨w.heap.size, 4, none⟩) B5.out (Nat.le_refl _) _) (Nat.le_refl _) _)
  have k3 := RB.out.cell 3
  have k4 := RB.out.cell 4
  simp only [List.getElem?_cons_succ, List.getElem?_cons_zero] at k3 k4
  have f3 := RB.out.frozen 3
  have f4 := RB.out.frozen 4
  go_upto_region 8 with (fail)
  generalize (W5.setCell ⟨w.heap.size, 4, none⟩ (.bool true)).setCell ⟨w.heap.size, 3, none⟩ (.bool false) = W6 at *
  clear k3 k4 f3 f4 RB RZ B5
  go_wp2_with (first
    | (with_reducible refine wpList_loadR rfl 23 (.tmp 2) rfl RB2.out rfl Tryz.underlying23 rfl (sizeRf _ _ _ _ _) ?_)
    | (with_reducible refine wpList_storeR rfl 23 (.tmp 4) (.tmp 36) rfl RZ2.out [.int .i64 s, .bool true, .int .i64 t, .bool false, .bool true] rfl rfl (lenRf _ _ _ _ _ _ _ _ _ _) (sizeRf _ _ _ _ _) (rf_one _ _ _ _ _) B6.out (Nat.le_succ _) ?_))
  intro w9 R9 B9 _
  go_wp2_with fail
  exact bodyPost_ret (results_ctu rfl _ _ _ (w.heap.size + 1) [.int .i64 s, .bool true, .int .i64 t, .bool false, .bool true] _ rfl R9.out.range Tryz.underlying23 rfl (sizeRf _ _ _ _ _)) rfl (by exact ⟨rfl, B9.out⟩)
set_option maxRecDepth 100000 in
set_option maxHeartbeats 4000000 in
theorem fire_soon (s t now : Int) (w : World) (hm : mayR s true t false false = true) (ht : tmOK now = true) (hs : ¬ s = 0) (hn : ¬ now < t + 500 * s) (hl : ¬ limR s t ≤ now) : Calls Tryz.prog 16 #[.agg #[.int .i64 s, .bool true, .int .i64 t, .bool false, .bool false], .int .i64 now] w fun r w' => r = .returned (.tuple #[.agg #[.int .i64 s, .bool true, .int .i64 t, .bool true, .bool false], .int .u8 1, .int .u8 0]) ∧ Below w.heap.size w w' := by
  obtain ⟨r0, r1, r2, r3⟩ := mayR_ranges hm
  have HM := Lib.hid hm
  have HT := Lib.hid ht
  have hs' : (s == 0) = false := by simp [hs]
  have d : decide (now < t + 500 * s) = false := by simpa using hn
  have d2 : decide (limR s t ≤ now) = false := by simpa using hl
  clear hm ht hs hn hl
  go_enter Tryz.func16, Tryz.ntmps16
  go_wp2_with (first | (go_at_call 14; refine (mayt_any _ _ _ _ _ _).mono ?_; rintro e w' ⟨rfl, rfl⟩; rw [HM.out]) | (go_at_call 26; refine (istime_any _ _).mono ?_; rintro e w' ⟨rfl, rfl⟩; rw [HT.out]))
  refine (nexta_any _ _ _ _ r2 r3 r0 r1).mono ?_
  rintro e w' ⟨rfl, rfl⟩
  go_wp2_with fail
  refine (limit_any _ _ _ _ _ _ r2 r3 r0 r1).mono ?_
  rintro e w' ⟨rfl, q, rfl⟩
  obtain ⟨W5, hW5⟩ : ∃ W5, W5 = (((((w.alloc (.cells #[.int .i64 s, .bool true, .int .i64 t, .bool false, .bool false] 23)).alloc (.cells #[.int .i64 0, .bool false, .int .i64 0, .bool false, .bool false] 23)).alloc (.cells #[.int .i64 s, .bool true, .int .i64 t, .bool false, .bool false] 23)).alloc (.cells #[.int .i64 s, .bool true, .int .i64 t, .bool false, .bool false] 23)).alloc (.cells #[.int .i64 s, .bool true, .int .i64 t, .bool false, .bool false] 23)).drewN q := ⟨_, rfl⟩
  rw [← hW5]
  have RB := Lib.hid (show Row W5 w.heap.size 23 [.int .i64 s, .bool true, .int .i64 t, .bool false, .bool false] by rw [hW5]; exact (((((Row.new w 23 [.int .i64 s, .bool true, .int .i64 t, .bool false, .bool false]).alloc _).alloc _).alloc _).alloc _).drewN q)
  have RZ := Lib.hid (show Row W5 (w.heap.size + 1) 23 [.int .i64 0, .bool false, .int .i64 0, .bool false, .bool false] by
    rw [hW5]
    have h := Row.new (w.alloc (.cells #[.int .i64 s, .bool true, .int .i64 t, .bool false, .bool false] 23)) 23 [.int .i64 0, .bool false, .int .i64 0, .bool false, .bool false]
    rw [World.size_alloc] at h
    exact (((h.alloc _).alloc _).alloc _).drewN q)
  have B5 := Lib.hid (show Below w.heap.size w W5 by rw [hW5]; (repeat (first | exact Below.refl _ _ | refine below_toN ?_ _ | refine Below.alloc ?_ (by first | exact Nat.le_refl _ | (simp; done) | (simp; omega)) _ | refine Below.setCell ?_ (Nat.le_refl _) _)))
  clear hW5
  have RB2 := Lib.hid (show Row (W5.setCell ⟨w.heap.size, 3, none⟩ (.bool true)) w.heap.size 23 [.int .i64 s, .bool true, .int .i64 t, .bool true, .bool false] from RB.out.set 3 _)
  have RZ2 := Lib.hid (show Row (W5.setCell ⟨w.heap.size, 3, none⟩ (.bool true)) (w.heap.size + 1) 23 [.int .i64 0, .bool false, .int .i64 0, .bool false, .bool false] from RZ.out.setOther (by omega) _)
  have B6 := Lib.hid (show Below w.heap.size w (W5.setCell ⟨w.heap.size, 3, none⟩ (.bool true)) from Below.setCell (p := ⟨w.heap.size, 3, none⟩) B5.out (Nat.le_refl _) _)
  have k3 := RB.out.cell 3
  have k4 := RB.out.cell 4
  simp only [List.getElem?_cons_succ, List.getElem?_cons_zero] at k3 k4
  have f3 := RB.out.frozen 3
  have f4 := RB.out.frozen 4
  go_upto_region 10 with (fail)
  generalize W5.setCell ⟨w.heap.size, 3, none⟩ (.bool true) = W6 at *
  clear k3 k4 f3 f4 RB RZ B5
  go_wp2_with (first
    | (with_reducible refine wpList_loadR rfl 23 (.tmp 2) rfl RB2.out rfl Tryz.underlying23 rfl (sizeRf _ _ _ _ _) ?_)
    | (with_reducible refine wpList_storeR rfl 23 (.tmp 4) (.tmp 38) rfl RZ2.out [.int .i64 s, .bool true, .int .i64 t, .bool true, .bool false] rfl rfl (lenRf _ _ _ _ _ _ _ _ _ _) (sizeRf _ _ _ _ _) (rf_one _ _ _ _ _) B6.out (Nat.le_succ _) ?_))
  intro w9 R9 B9 _
  go_wp2_with fail
  exact bodyPost_ret (results_ctu rfl _ _ _ (w.heap.size + 1) [.int .i64 s, .bool true, .int .i64 t, .bool true, .bool false] _ rfl R9.out.range Tryz.underlying23 rfl (sizeRf _ _ _ _ _)) rfl (by exact ⟨rfl, B9.out⟩)
set_option maxRecDepth 100000 in
set_option maxHeartbeats 4000000 in
theorem fire_last (s t now : Int) (o p : Bool) (w : World) (hop' : o = false ∨ p = true) (hm : mayR s o t p false = true) (ht : tmOK now = true) (hs : ¬ s = 0) (hl : limR s t ≤ now) : Calls Tryz.prog 16 #[.agg #[.int .i64 s, .bool o, .int .i64 t, .bool p, .bool false], .int .i64 now] w fun r w' => r = .returned (.tuple #[.agg #[.int .i64 s, .bool o, .int .i64 t, .bool false, .bool true], .int .u8 2, .int .u8 0]) ∧ Below w.heap.size w w' := by
  obtain ⟨r0, r1, r2, r3⟩ := mayR_ranges hm
  have HM := Lib.hid hm
  have HT := Lib.hid ht
  have hs' : (s == 0) = false := by simp [hs]
  have d : decide (now < limR s t) = false := by simpa using hl
  have d2 : decide (limR s t ≤ now) = true := by simp [hl]
  clear hm ht hs hl
  go_enter Tryz.func16, Tryz.ntmps16
  go_wp2_with (first | (go_at_call 14; refine (mayt_any _ _ _ _ _ _).mono ?_; rintro e w' ⟨rfl, rfl⟩; rw [HM.out]) | (go_at_call 26; refine (istime_any _ _).mono ?_; rintro e w' ⟨rfl, rfl⟩; rw [HT.out]))
  refine (nextb_any _ _ _ _ _ _ hop' r2 r3 r0 r1).mono ?_
  rintro e w' ⟨rfl, q0, rfl⟩
  go_wp2_with fail
  refine (limit_any _ _ _ _ _ _ r2 r3 r0 r1).mono ?_
  rintro e w' ⟨rfl, q, rfl⟩
  obtain ⟨W5, hW5⟩ : ∃ W5, W5 = (((((((w.alloc (.cells #[.int .i64 s, .bool o, .int .i64 t, .bool p, .bool false] 23)).alloc (.cells #[.int .i64 0, .bool false, .int .i64 0, .bool false, .bool false] 23)).alloc (.cells #[.int .i64 s, .bool o, .int .i64 t, .bool p, .bool false] 23)).alloc (.cells #[.int .i64 s, .bool o, .int .i64 t, .bool p, .bool false] 23)).alloc (.cells #[.int .i64 s, .bool o, .int .i64 t, .bool p, .bool false] 23)).drewN q0).alloc (.cells #[.int .i64 s, .bool o, .int .i64 t, .bool p, .bool false] 23)).drewN q := ⟨_, rfl⟩
  rw [← hW5]
  have RB := Lib.hid (show Row W5 w.heap.size 23 [.int .i64 s, .bool o, .int .i64 t, .bool p, .bool false] by rw [hW5]; exact (((((((Row.new w 23 [.int .i64 s, .bool o, .int .i64 t, .bool p, .bool false]).alloc _).alloc _).alloc _).alloc _).drewN q0).alloc _).drewN q)
  have RZ := Lib.hid (show Row W5 (w.heap.size + 1) 23 [.int .i64 0, .bool false, .int .i64 0, .bool false, .bool false] by
    rw [hW5]
    have h := Row.new (w.alloc (.cells #[.int .i64 s, .bool o, .int .i64 t, .bool p, .bool false] 23)) 23 [.int .i64 0, .bool false, .int .i64 0, .bool false, .bool false]
    rw [World.size_alloc] at h
    exact (((((h.alloc _).alloc _).alloc _).drewN q0).alloc _).drewN q)
  have B5 := Lib.hid (show Below w.heap.size w W5 by rw [hW5]; (repeat (first | exact Below.refl _ _ | refine below_toN ?_ _ | refine Below.alloc ?_ (by first | exact Nat.le_refl _ | (simp; done) | (simp; omega)) _ | refine Below.setCell ?_ (Nat.le_refl _) _)))
  clear hW5
  have RB2 := Lib.hid (show Row ((W5.setCell ⟨w.heap.size, 4, none⟩ (.bool true)).setCell ⟨w.heap.size, 3, none⟩ (.bool false)) w.heap.size 23 [.int .i64 s, .bool o, .int .i64 t, .bool false, .bool true] from (RB.out.set 4 _).set 3 _)
  have RZ2 := Lib.hid (show Row ((W5.setCell ⟨w.heap.size, 4, none⟩ (.bool true)).setCell ⟨w.heap.size, 3, none⟩ (.bool false)) (w.heap.size + 1) 23 [.int .i64 0, .bool false, .int .i64 0, .bool false, .bool false] from (RZ.out.setOther (by omega) _).setOther (by omega) _)
  have B6 := Lib.hid (show Below w.heap.size w ((W5.setCell ⟨w.heap.size, 4, none⟩ (.bool true)).setCell ⟨w.heap.size, 3, none⟩ (.bool false)) from Below.setCell (p := ⟨w.heap.size, 3, none⟩) (Below.setCell (p := ⟨w.heap.size, 4, none⟩) B5.out (Nat.le_refl _) _) (Nat.le_refl _) _)
  have k3 := RB.out.cell 3
  have k4 := RB.out.cell 4
  simp only [List.getElem?_cons_succ, List.getElem?_cons_zero] at k3 k4
  have f3 := RB.out.frozen 3
  have f4 := RB.out.frozen 4
  go_upto_region 8 with (fail)
  generalize (W5.setCell ⟨w.heap.size, 4, none⟩ (.bool true)).setCell ⟨w.heap.size, 3, none⟩ (.bool false) = W6 at *
  clear k3 k4 f3 f4 RB RZ B5
  go_wp2_with (first
    | (with_reducible refine wpList_loadR rfl 23 (.tmp 2) rfl RB2.out rfl Tryz.underlying23 rfl (sizeRf _ _ _ _ _) ?_)
    | (with_reducible refine wpList_storeR rfl 23 (.tmp 4) (.tmp 36) rfl RZ2.out [.int .i64 s, .bool o, .int .i64 t, .bool false, .bool true] rfl rfl (lenRf _ _ _ _ _ _ _ _ _ _) (sizeRf _ _ _ _ _) (rf_one _ _ _ _ _) B6.out (Nat.le_succ _) ?_))
  intro w9 R9 B9 _
  go_wp2_with fail
  exact bodyPost_ret (results_ctu rfl _ _ _ (w.heap.size + 1) [.int .i64 s, .bool o, .int .i64 t, .bool false, .bool true] _ rfl R9.out.range Tryz.underlying23 rfl (sizeRf _ _ _ _ _)) rfl (by exact ⟨rfl, B9.out⟩)
set_option maxRecDepth 100000 in
set_option maxHeartbeats 4000000 in
theorem fire_keep (s t now : Int) (o p : Bool) (w : World) (hop' : o = false ∨ p = true) (hm : mayR s o t p false = true) (ht : tmOK now = true) (hs : ¬ s = 0) (hl : now < limR s t) : Calls Tryz.prog 16 #[.agg #[.int .i64 s, .bool o, .int .i64 t, .bool p, .bool false], .int .i64 now] w fun r w' => r = .returned (.tuple #[.agg #[.int .i64 s, .bool o, .int .i64 t, .bool p, .bool false], .int .u8 0, .int .u8 0]) ∧ Below w.heap.size w w' := by
  obtain ⟨r0, r1, r2, r3⟩ := mayR_ranges hm
  have HM := Lib.hid hm
  have HT := Lib.hid ht
  have hs' : (s == 0) = false := by simp [hs]
  have d : decide (now < limR s t) = true := by simp [hl]
  clear hm ht hs hl
  go_enter Tryz.func16, Tryz.ntmps16
  go_wp2_with (first | (go_at_call 14; refine (mayt_any _ _ _ _ _ _).mono ?_; rintro e w' ⟨rfl, rfl⟩; rw [HM.out]) | (go_at_call 26; refine (istime_any _ _).mono ?_; rintro e w' ⟨rfl, rfl⟩; rw [HT.out]))
  refine (nextb_any _ _ _ _ _ _ hop' r2 r3 r0 r1).mono ?_
  rintro e w' ⟨rfl, q0, rfl⟩
  obtain ⟨W5, hW5⟩ : ∃ W5, W5 = (((((w.alloc (.cells #[.int .i64 s, .bool o, .int .i64 t, .bool p, .bool false] 23)).alloc (.cells #[.int .i64 0, .bool false, .int .i64 0, .bool false, .bool false] 23)).alloc (.cells #[.int .i64 s, .bool o, .int .i64 t, .bool p, .bool false] 23)).alloc (.cells #[.int .i64 s, .bool o, .int .i64 t, .bool p, .bool false] 23)).alloc (.cells #[.int .i64 s, .bool o, .int .i64 t, .bool p, .bool false] 23)).drewN q0 := ⟨_, rfl⟩
  rw [← hW5]
  have RB := Lib.hid (show Row W5 w.heap.size 23 [.int .i64 s, .bool o, .int .i64 t, .bool p, .bool false] by rw [hW5]; exact (((((Row.new w 23 [.int .i64 s, .bool o, .int .i64 t, .bool p, .bool false]).alloc _).alloc _).alloc _).alloc _).drewN q0)
  have RZ := Lib.hid (show Row W5 (w.heap.size + 1) 23 [.int .i64 0, .bool false, .int .i64 0, .bool false, .bool false] by
    rw [hW5]
    have h := Row.new (w.alloc (.cells #[.int .i64 s, .bool o, .int .i64 t, .bool p, .bool false] 23)) 23 [.int .i64 0, .bool false, .int .i64 0, .bool false, .bool false]
    rw [World.size_alloc] at h
    exact (((h.alloc _).alloc _).alloc _).drewN q0)
  have B5 := Lib.hid (show Below w.heap.size w W5 by rw [hW5]; (repeat (first | exact Below.refl _ _ | refine below_toN ?_ _ | refine Below.alloc ?_ (by first | exact Nat.le_refl _ | (simp; done) | (simp; omega)) _ | refine Below.setCell ?_ (Nat.le_refl _) _)))
  clear hW5
  go_wp2_with (first
    | (with_reducible refine wpList_loadR rfl 23 (.tmp 2) rfl RB.out rfl Tryz.underlying23 rfl (sizeRf _ _ _ _ _) ?_)
    | (with_reducible refine wpList_storeR rfl 23 (.tmp 4) (.tmp 29) rfl RZ.out [.int .i64 s, .bool o, .int .i64 t, .bool p, .bool false] rfl rfl (lenRf _ _ _ _ _ _ _ _ _ _) (sizeRf _ _ _ _ _) (rf_one _ _ _ _ _) B5.out (Nat.le_succ _) ?_))
  intro w9 R9 B9 _
  go_wp2_with fail
  exact bodyPost_ret (results_ctu rfl _ _ _ (w.heap.size + 1) [.int .i64 s, .bool o, .int .i64 t, .bool p, .bool false] _ rfl R9.out.range Tryz.underlying23 rfl (sizeRf _ _ _ _ _)) rfl (by exact ⟨rfl, B9.out⟩)
set_option maxRecDepth 100000 in
set_option maxHeartbeats 4000000 in
theorem firet_any (s t now : Int) (o p e : Bool) (w : World) : Calls Tryz.prog 16 #[.agg #[.int .i64 s, .bool o, .int .i64 t, .bool p, .bool e], .int .i64 now] w fun r w' => r = .returned (fireV s o t p e now) ∧ (Below w.heap.size w w') := by
  have V := Lib.hid (show fireV s o t p e now = if mayR s o t p e = false ∨ tmOK now = false then .tuple #[.agg #[.int .i64 0, .bool false, .int .i64 0, .bool false, .bool false], .int .u8 0, .int .u8 2]
    else if s = 0 ∨ e = true ∨ now < nextR s o t p then .tuple #[.agg #[.int .i64 s, .bool o, .int .i64 t, .bool p, .bool e], .int .u8 0, .int .u8 0]
    else if limR s t ≤ now then .tuple #[.agg #[.int .i64 s, .bool o, .int .i64 t, .bool false, .bool true], .int .u8 2, .int .u8 0]
    else .tuple #[.agg #[.int .i64 s, .bool o, .int .i64 t, .bool true, .bool e], .int .u8 1, .int .u8 0] from rfl)
  generalize fireV s o t p e now = X at *
  cases hm : mayR s o t p e with
  | false =>
    have E := Lib.hid (V.out.trans (if_pos (.inl hm)))
    have HM := Lib.hid hm
    clear hm V
    go_enter Tryz.func16, Tryz.ntmps16
    go_wp2_with (go_at_call 14; refine (mayt_any _ _ _ _ _ _).mono ?_; rintro e w' ⟨rfl, rfl⟩; rw [HM.out])
    all_goals ((try simp only [Exit.inBlock, Exit.then]); refine bodyPost_ret (v := X) (by rw [E.out]; simp [results, Tryz.results16, go_sem]) rfl ⟨rfl, by (repeat (first | exact Below.refl _ _ | refine below_toN ?_ _ | refine Below.alloc ?_ (by first | exact Nat.le_refl _ | (simp; done) | (simp; omega)) _ | refine Below.setCell ?_ (Nat.le_refl _) _))⟩)
  | true =>
  obtain ⟨r0, r1, r2, r3⟩ := mayR_ranges hm
  have HM := Lib.hid hm
  cases ht : tmOK now with
  | false =>
    have E := Lib.hid (V.out.trans (if_pos (.inr ht)))
    have HT := Lib.hid ht
    clear hm ht V
    go_enter Tryz.func16, Tryz.ntmps16
    go_wp2_with (first | (go_at_call 14; refine (mayt_any _ _ _ _ _ _).mono ?_; rintro e w' ⟨rfl, rfl⟩; rw [HM.out]) | (go_at_call 26; refine (istime_any _ _).mono ?_; rintro e w' ⟨rfl, rfl⟩; rw [HT.out]))
    all_goals ((try simp only [Exit.inBlock, Exit.then]); refine bodyPost_ret (v := X) (by rw [E.out]; simp [results, Tryz.results16, go_sem]) rfl ⟨rfl, by (repeat (first | exact Below.refl _ _ | refine below_toN ?_ _ | refine Below.alloc ?_ (by first | exact Nat.le_refl _ | (simp; done) | (simp; omega)) _ | refine Below.setCell ?_ (Nat.le_refl _) _))⟩)
  | true =>
  have HT := Lib.hid ht
  have V1 := Lib.hid (V.out.trans (if_neg (by rintro (h | h); exact absurd (hm.symm.trans h) (by decide); exact absurd (ht.symm.trans h) (by decide))))
  clear V hm ht
  by_cases hs : s = 0
  · have E := Lib.hid (V1.out.trans (if_pos (.inl hs)))
    have hs' : (s == 0) = true := by simp [hs]
    clear V1
    subst hs
    cases e <;> cases o <;> cases p
    all_goals
      go_enter Tryz.func16, Tryz.ntmps16
      go_wp2_with (first | (go_at_call 14; refine (mayt_any _ _ _ _ _ _).mono ?_; rintro e w' ⟨rfl, rfl⟩; rw [HM.out]) | (go_at_call 26; refine (istime_any _ _).mono ?_; rintro e w' ⟨rfl, rfl⟩; rw [HT.out]))
      all_goals go_wp2_with (go_at_call 31; refine (limit_any _ _ _ _ _ _ r2 r3 r0 r1).mono ?_; rintro e w' ⟨rfl, q, rfl⟩)
      all_goals ((try simp only [Exit.inBlock, Exit.then]); refine bodyPost_ret (v := X) (by rw [E.out]; simp [results, Tryz.results16, go_sem]) rfl ⟨rfl, by (repeat (first | exact Below.refl _ _ | refine below_toN ?_ _ | refine Below.alloc ?_ (by first | exact Nat.le_refl _ | (simp; done) | (simp; omega)) _ | refine Below.setCell ?_ (Nat.le_refl _) _))⟩)
  have hs' : (s == 0) = false := by simp [hs]
  cases e with
  | true =>
    have E := Lib.hid (V1.out.trans (if_pos (.inr (.inl rfl))))
    clear V1
    go_enter Tryz.func16, Tryz.ntmps16
    go_wp2_with (first | (go_at_call 14; refine (mayt_any _ _ _ _ _ _).mono ?_; rintro e w' ⟨rfl, rfl⟩; rw [HM.out]) | (go_at_call 26; refine (istime_any _ _).mono ?_; rintro e w' ⟨rfl, rfl⟩; rw [HT.out]))
    all_goals go_wp2_with (go_at_call 31; refine (limit_any _ _ _ _ _ _ r2 r3 r0 r1).mono ?_; rintro e w' ⟨rfl, q, rfl⟩)
    all_goals ((try simp only [Exit.inBlock, Exit.then]); refine bodyPost_ret (v := X) (by rw [E.out]; simp [results, Tryz.results16, go_sem]) rfl ⟨rfl, by (repeat (first | exact Below.refl _ _ | refine below_toN ?_ _ | refine Below.alloc ?_ (by first | exact Nat.le_refl _ | (simp; done) | (simp; omega)) _ | refine Below.setCell ?_ (Nat.le_refl _) _))⟩)
  | false =>
  by_cases hop : o = true ∧ p = false
  · rw [nextR_now hop] at V1
    obtain ⟨rfl, rfl⟩ := hop
    by_cases hn : now < t + 500 * s
    · have E := Lib.hid (V1.out.trans (if_pos (.inr (.inr hn))))
      have d : decide (now < t + 500 * s) = true := by simp [hn]
      clear V1 hn
      go_enter Tryz.func16, Tryz.ntmps16
      go_wp2_with (first | (go_at_call 14; refine (mayt_any _ _ _ _ _ _).mono ?_; rintro e w' ⟨rfl, rfl⟩; rw [HM.out]) | (go_at_call 26; refine (istime_any _ _).mono ?_; rintro e w' ⟨rfl, rfl⟩; rw [HT.out]))
      refine (nexta_any _ _ _ _ r2 r3 r0 r1).mono ?_
      rintro e w' ⟨rfl, rfl⟩
      all_goals go_wp2_with (go_at_call 31; refine (limit_any _ _ _ _ _ _ r2 r3 r0 r1).mono ?_; rintro e w' ⟨rfl, q, rfl⟩)
      all_goals ((try simp only [Exit.inBlock, Exit.then]); refine bodyPost_ret (v := X) (by rw [E.out]; simp [results, Tryz.results16, go_sem]) rfl ⟨rfl, by (repeat (first | exact Below.refl _ _ | refine below_toN ?_ _ | refine Below.alloc ?_ (by first | exact Nat.le_refl _ | (simp; done) | (simp; omega)) _ | refine Below.setCell ?_ (Nat.le_refl _) _))⟩)
    · have V2 := Lib.hid (V1.out.trans (if_neg (by rintro (h | h | h); exact hs h; cases h; exact hn h)))
      have d : decide (now < t + 500 * s) = false := by simpa using hn
      clear V1 hn
      by_cases hl : limR s t ≤ now
      · have E := Lib.hid (V2.out.trans (if_pos hl))
        have d2 : decide (limR s t ≤ now) = true := by simp [hl]
        clear V2 hl
        rw [E.out]
        exact fire_late s t now w HM.out HT.out hs (by simpa using d) (by simpa using d2)
      · have E := Lib.hid (V2.out.trans (if_neg hl))
        have d2 : decide (limR s t ≤ now) = false := by simpa using hl
        clear V2 hl
        rw [E.out]
        exact fire_soon s t now w HM.out HT.out hs (by simpa using d) (by simpa using d2)
  · have hop' : o = false ∨ p = true := by cases o <;> cases p <;> simp_all
    rw [nextR_lim hop'] at V1
    by_cases hl : limR s t ≤ now
    · have E := Lib.hid ((V1.out.trans (if_neg (by rintro (h | h | h); exact hs h; cases h; omega))).trans (if_pos hl))
      have d : decide (now < limR s t) = false := by simp; omega
      have d2 : decide (limR s t ≤ now) = true := by simp [hl]
      clear V1 hop
      rw [E.out]
      exact fire_last s t now o p w hop' HM.out HT.out hs hl
    · have E := Lib.hid (V1.out.trans (if_pos (.inr (.inr (by omega)))))
      have d : decide (now < limR s t) = true := by simp; omega
      clear V1 hop
      rw [E.out]
      exact fire_keep s t now o p w hop' HM.out HT.out hs (by omega)
end Go.Proofs.YtcnkjgjimcddiaaGreatDoor
namespace Go.Proofs.YtcnkjgjimcddiaaGreatDoor
open Go.RowKit

set_option maxRecDepth 100000 in
set_option maxHeartbeats 4000000 in
theorem donet_any (s t now : Int) (o p e ok : Bool) (w : World) : Calls Tryz.prog 10 #[.agg #[.int .i64 s, .bool o, .int .i64 t, .bool p, .bool e], .bool ok, .int .i64 now] w fun r w' => r = .returned (doneV s o t p e ok now) ∧ (Below w.heap.size w w') := by
  have V := Lib.hid (show doneV s o t p e ok now = if mayR s o t p e = false ∨ tmOK now = false then .tuple #[.agg #[.int .i64 0, .bool false, .int .i64 0, .bool false, .bool false], .int .u8 0, .int .u8 2]
  else if s = 0 ∨ e = true ∨ (ok = false ∧ p = false) then .tuple #[.agg #[.int .i64 0, .bool false, .int .i64 0, .bool false, .bool false], .int .u8 0, .int .u8 9]
  else if ok = true then .tuple #[.agg #[.int .i64 s, .bool o, .int .i64 now, .bool false, .bool e], .int .u8 0, .int .u8 0]
  else .tuple #[.agg #[.int .i64 s, .bool o, .int .i64 t, .bool false, .bool true], .int .u8 2, .int .u8 0] from rfl)
  generalize doneV s o t p e ok now = X at *
  cases hm : mayR s o t p e with
  | false =>
    have E := Lib.hid (V.out.trans (if_pos (.inl hm)))
    have HM := Lib.hid hm
    clear hm V
    go_enter Tryz.func10, Tryz.ntmps10
    go_wp2_with (go_at_call 14; refine (mayt_any _ _ _ _ _ _).mono ?_; rintro e w' ⟨rfl, rfl⟩; rw [HM.out])
    all_goals ((try simp only [Exit.inBlock, Exit.then]); refine bodyPost_ret (v := X) (by rw [E.out]; simp [results, Tryz.results10, go_sem]) rfl ⟨rfl, by (repeat (first | exact Below.refl _ _ | refine below_toN ?_ _ | refine Below.alloc ?_ (by first | exact Nat.le_refl _ | (simp; done) | (simp; omega)) _ | refine Below.setCell ?_ (Nat.le_refl _) _))⟩)
  | true =>
  obtain ⟨r0, r1, r2, r3⟩ := mayR_ranges hm
  have HM := Lib.hid hm
  cases ht : tmOK now with
  | false =>
    have E := Lib.hid (V.out.trans (if_pos (.inr ht)))
    have HT := Lib.hid ht
    clear hm ht V
    go_enter Tryz.func10, Tryz.ntmps10
    go_wp2_with (first | (go_at_call 14; refine (mayt_any _ _ _ _ _ _).mono ?_; rintro e w' ⟨rfl, rfl⟩; rw [HM.out]) | (go_at_call 26; refine (istime_any _ _).mono ?_; rintro e w' ⟨rfl, rfl⟩; rw [HT.out]))
    all_goals ((try simp only [Exit.inBlock, Exit.then]); refine bodyPost_ret (v := X) (by rw [E.out]; simp [results, Tryz.results10, go_sem]) rfl ⟨rfl, by (repeat (first | exact Below.refl _ _ | refine below_toN ?_ _ | refine Below.alloc ?_ (by first | exact Nat.le_refl _ | (simp; done) | (simp; omega)) _ | refine Below.setCell ?_ (Nat.le_refl _) _))⟩)
  | true =>
  have HT := Lib.hid ht
  have V1 := Lib.hid (V.out.trans (if_neg (by rintro (h | h); exact absurd (hm.symm.trans h) (by decide); exact absurd (ht.symm.trans h) (by decide))))
  clear V hm ht
  by_cases hs : s = 0
  · have E := Lib.hid (V1.out.trans (if_pos (.inl hs)))
    have hs' : (s == 0) = true := by simp [hs]
    clear V1
    subst hs
    cases e <;> cases ok <;> cases p
    all_goals
      go_enter Tryz.func10, Tryz.ntmps10
      go_wp2_with (first | (go_at_call 14; refine (mayt_any _ _ _ _ _ _).mono ?_; rintro e w' ⟨rfl, rfl⟩; rw [HM.out]) | (go_at_call 26; refine (istime_any _ _).mono ?_; rintro e w' ⟨rfl, rfl⟩; rw [HT.out]))
      all_goals ((try simp only [Exit.inBlock, Exit.then]); refine bodyPost_ret (v := X) (by rw [E.out]; simp [results, Tryz.results10, go_sem]) rfl ⟨rfl, by (repeat (first | exact Below.refl _ _ | refine below_toN ?_ _ | refine Below.alloc ?_ (by first | exact Nat.le_refl _ | (simp; done) | (simp; omega)) _ | refine Below.setCell ?_ (Nat.le_refl _) _))⟩)
  have hs' : (s == 0) = false := by simp [hs]
  cases e with
  | true =>
    have E := Lib.hid (V1.out.trans (if_pos (.inr (.inl rfl))))
    clear V1
    cases ok <;> cases p
    all_goals
      go_enter Tryz.func10, Tryz.ntmps10
      go_wp2_with (first | (go_at_call 14; refine (mayt_any _ _ _ _ _ _).mono ?_; rintro e w' ⟨rfl, rfl⟩; rw [HM.out]) | (go_at_call 26; refine (istime_any _ _).mono ?_; rintro e w' ⟨rfl, rfl⟩; rw [HT.out]))
      all_goals ((try simp only [Exit.inBlock, Exit.then]); refine bodyPost_ret (v := X) (by rw [E.out]; simp [results, Tryz.results10, go_sem]) rfl ⟨rfl, by (repeat (first | exact Below.refl _ _ | refine below_toN ?_ _ | refine Below.alloc ?_ (by first | exact Nat.le_refl _ | (simp; done) | (simp; omega)) _ | refine Below.setCell ?_ (Nat.le_refl _) _))⟩)
  | false =>
  cases ok with
  | true =>
    have E := Lib.hid (V1.out.trans ((if_neg (by rintro (h | h | h); exact hs h; cases h; cases h.1)).trans (if_pos rfl)))
    clear V1 hs
    go_enter Tryz.func10, Tryz.ntmps10
    go_wp2_with (first | (go_at_call 14; refine (mayt_any _ _ _ _ _ _).mono ?_; rintro e w' ⟨rfl, rfl⟩; rw [HM.out]) | (go_at_call 26; refine (istime_any _ _).mono ?_; rintro e w' ⟨rfl, rfl⟩; rw [HT.out]))
    all_goals ((try simp only [Exit.inBlock, Exit.then]); refine bodyPost_ret (v := X) (by rw [E.out]; simp [results, Tryz.results10, go_sem]) rfl ⟨rfl, by (repeat (first | exact Below.refl _ _ | refine below_toN ?_ _ | refine Below.alloc ?_ (by first | exact Nat.le_refl _ | (simp; done) | (simp; omega)) _ | refine Below.setCell ?_ (Nat.le_refl _) _))⟩)
  | false =>
  cases p with
  | false =>
    have E := Lib.hid (V1.out.trans (if_pos (.inr (.inr ⟨rfl, rfl⟩))))
    clear V1 hs
    go_enter Tryz.func10, Tryz.ntmps10
    go_wp2_with (first | (go_at_call 14; refine (mayt_any _ _ _ _ _ _).mono ?_; rintro e w' ⟨rfl, rfl⟩; rw [HM.out]) | (go_at_call 26; refine (istime_any _ _).mono ?_; rintro e w' ⟨rfl, rfl⟩; rw [HT.out]))
    all_goals ((try simp only [Exit.inBlock, Exit.then]); refine bodyPost_ret (v := X) (by rw [E.out]; simp [results, Tryz.results10, go_sem]) rfl ⟨rfl, by (repeat (first | exact Below.refl _ _ | refine below_toN ?_ _ | refine Below.alloc ?_ (by first | exact Nat.le_refl _ | (simp; done) | (simp; omega)) _ | refine Below.setCell ?_ (Nat.le_refl _) _))⟩)
  | true =>
    have E := Lib.hid (V1.out.trans ((if_neg (by rintro (h | h | h); exact hs h; cases h; cases h.2)).trans (if_neg (by decide))))
    clear V1 hs
    go_enter Tryz.func10, Tryz.ntmps10
    go_wp2_with (first | (go_at_call 14; refine (mayt_any _ _ _ _ _ _).mono ?_; rintro e w' ⟨rfl, rfl⟩; rw [HM.out]) | (go_at_call 26; refine (istime_any _ _).mono ?_; rintro e w' ⟨rfl, rfl⟩; rw [HT.out]))
    all_goals ((try simp only [Exit.inBlock, Exit.then]); refine bodyPost_ret (v := X) (by rw [E.out]; simp [results, Tryz.results10, go_sem]) rfl ⟨rfl, by (repeat (first | exact Below.refl _ _ | refine below_toN ?_ _ | refine Below.alloc ?_ (by first | exact Nat.le_refl _ | (simp; done) | (simp; omega)) _ | refine Below.setCell ?_ (Nat.le_refl _) _))⟩)
set_option maxRecDepth 100000 in
set_option maxHeartbeats 4000000 in
theorem startt_any (k m s now : Int) (c side : Bool) (w : World) : Calls Tryz.prog 8 #[.agg #[.int .i64 k, .int .i64 m, .int .i64 s, .bool c], .bool side, .int .i64 now] w fun r w' => r = .returned (startV k s c side now) ∧ (Below w.heap.size w w') := by
  have V := Lib.hid (show startV k s c side now = if k ≠ 0 ∨ (s ≠ 0 ∧ ivl s = false) ∨ tmOK now = false then .tuple #[.agg #[.int .i64 0, .bool false, .int .i64 0, .bool false, .bool false], .int .u8 2]
  else if s = 0 then .tuple #[.agg #[.int .i64 0, .bool false, .int .i64 0, .bool false, .bool false], .int .u8 0]
  else .tuple #[.agg #[.int .i64 s, .bool (c == side), .int .i64 now, .bool false, .bool false], .int .u8 0] from rfl)
  generalize startV k s c side now = X at *
  cases hk : (k == 0) <;> cases hs : (s == 0) <;> cases hi : ivl s <;> cases ht : tmOK now
  all_goals
    have E := Lib.hid V.out
    have HS0 := Lib.hid hs
    simp only [beq_iff_eq, beq_eq_false_iff_ne] at hk hs
    simp only [ne_eq, hk, hs, hi, ht, not_true_eq_false, not_false_eq_true, true_or, or_true, false_or, or_false, and_true, and_false, true_and, false_and, if_true, if_false, reduceCtorEq] at E
    have HI := Lib.hid hi; have HT := Lib.hid ht
    clear V hi ht
    have hk' : (k == 0) = decide (k = 0) := by rw [Bool.eq_iff_iff]; simp
    have hs' : (s == 0) = decide (s = 0) := by rw [Bool.eq_iff_iff]; simp
    first | subst hk | simp only [hk, decide_false] at hk'
    first | subst hs | simp only [hs, decide_false] at hs'
    go_enter Tryz.func8, Tryz.ntmps8
    go_wp2_with (first | (go_at_call 25; refine (isivl_any _ _).mono ?_; rintro e w' ⟨rfl, rfl⟩; rw [HI.out]) | (go_at_call 26; refine (istime_any _ _).mono ?_; rintro e w' ⟨rfl, rfl⟩; rw [HT.out]))
    all_goals ((try simp only [Exit.inBlock, Exit.then]); refine bodyPost_ret (v := X) (by rw [E.out]; simp [results, Tryz.results8, go_sem]) rfl ⟨rfl, by (repeat (first | exact Below.refl _ _ | refine below_toN ?_ _ | refine Below.alloc ?_ (by first | exact Nat.le_refl _ | (simp; done) | (simp; omega)) _ | refine Below.setCell ?_ (Nat.le_refl _) _))⟩)
end Go.Proofs.YtcnkjgjimcddiaaGreatDoor
