/- The contract of the reference's Unhex. -/
import Derived.Test.YtldonfgdomeacaaDoorRd
namespace Go.Proofs.YtldonfgdomeacaaDoor
open Go.RowKit

def UnS (w : World) (xs : List Int) (e : Ending) (w' : World) : Prop := Below w.heap.size w w' ∧
  if goodU xs = true then ∃ v, e = .returned (.tuple #[v, .int .u8 0]) ∧ w'.ownsRow w.heap.size 5 1 v (unL xs (xs.length / 2)).length (U8 (unL xs (xs.length / 2)))
  else e = .returned (.tuple #[.slice none 0 0, .int .u8 5])
theorem UnS.bad {w w' : World} {xs : List Int} {e : Ending} (h : goodU xs = false) (hb : Below w.heap.size w w') (he : e = .returned (.tuple #[.slice none 0 0, .int .u8 5])) : UnS w xs e w' := ⟨hb, by rw [h]; exact he⟩
structure US (w : World) (xs : List Int) (v : Value) (k : Nat) (wr : World) : Prop where
  o : OX w v (unL xs k) wr
  ok : ∀ j, j < 2 * k → digOk (xs.getD j 0) = true
def USR (w : World) (xs : List Int) (m : Nat) (v4 v5 : Value) (wr : World) : Prop := ∃ (k : Nat) (x : Value), k ≤ m ∧ x = v4 ∧ v5 = .int .i64 (2 * (k : Int)) ∧ US w xs x k wr
theorem OX.drewN {w wr : World} {v : Value} {xs : List Int} (H : OX w v xs wr) (q : Nat) : OX w v xs (wr.drewN q) := ⟨H.o, ⟨H.bw.os, H.bw.tape, H.bw.output, H.bw.size, H.bw.block⟩⟩
theorem US.all {w wr : World} {xs : List Int} {v : Value} {m : Nat} (H : US w xs v m wr) (hm : xs.length = 2 * m) : goodU xs = true := by
  unfold goodU
  rw [Bool.and_eq_true, List.all_eq_true]
  refine ⟨by simp; omega, fun x hx => ?_⟩
  obtain ⟨j, hj, rfl⟩ := List.getElem_of_mem hx
  have := H.ok j (by omega)
  rwa [List.getD_eq_getElem?_getD, List.getElem?_eq_getElem hj] at this
theorem rdig_ok {c : Int} (h : digOk c = true) : rdig c = digV c := by unfold rdig; rw [if_pos h]
theorem rdig_bad {c : Int} (h : digOk c = false) : rdig c = -1 := by unfold rdig; rw [if_neg (by rw [h]; decide)]
theorem refdig_q (c : Int) {w : World} {n : Nat} (h0 : 0 ≤ c) (h1 : c < 256) (z : Int) (hz : rdig c = z) : Calls Tryd.prog 30 #[.int .u8 c] (w.drewN n) fun e w'' => e = .returned (.int .i64 z) ∧ ∃ m, w'' = w.drewN m :=
  (refdigit_any c _ h0 h1).mono fun _ _ ⟨he, hw⟩ => ⟨by rw [he, hz], n, hw.symm⟩
set_option maxRecDepth 100000 in
set_option maxHeartbeats 400000 in
theorem refunhex_any (s : ByteArray) (w : World) (hM : s.size ≤ 8192) : Calls Tryd.prog 24 #[.string s] w (UnS w (byteL s)) := by
  have HL := Lib.hid (byteL_len s)
  have HB := Lib.hid (byteL_by s)
  by_cases hodd : s.size % 2 = 0
  · obtain ⟨m, hm⟩ : ∃ m, s.size = 2 * m := ⟨s.size / 2, by omega⟩
    have HS := Lib.hid hm
    have t0 : ¬ ((s.size : Nat) : Int) % 2 = 1 := by omega
    have mM : m ≤ 4096 := by omega
    clear hodd
    go_enter Tryd.func24, Tryd.ntmps24
    go_wp2_with fail
    clear t0
    go_loopw [4, 5] (fun v4 v5 wr => USR w (byteL s) m v4 v5 wr) (fun _ v _ => 2 * m - (intOf v).toNat)
    case atStart => exact ⟨0, _, Nat.zero_le _, rfl, rfl, OX.nil w, fun j hj => absurd hj (by omega)⟩
    case round =>
      obtain ⟨k, v, hk, rfl, rfl, hP⟩ := hrel
      have HP := Lib.hid hP
      clear hP
      by_cases hlt : k < m
      · have hd : decide (2 * (k : Int) < (s.size : Int)) = true := by simp; omega
        have d1 := fun w => idx_str s (i := 2 * k) (by omega) (z := 2 * (k : Int)) (by omega) w
        have d2 := fun w => idx_str s (i := 2 * k + 1) (by omega) (z := 2 * (k : Int) + 1) (by omega) w
        have r1 := HB.out _ (List.mem_of_getElem? (getD_some (l := byteL s) (i := 2 * k) (by rw [HL.out]; omega)))
        have r2 := HB.out _ (List.mem_of_getElem? (getD_some (l := byteL s) (i := 2 * k + 1) (by rw [HL.out]; omega)))
        have v1 : IntKind.i64.wrap (2 * (k : Int) + 1) = 2 * (k : Int) + 1 := IntWalk.i64_in _ (by omega)
        have UB := Lib.hid (show unB (byteL s) k = digV ((byteL s).getD (2 * k) 0) * 16 + digV ((byteL s).getD (2 * k + 1) 0) from rfl)
        cases q1 : digOk ((byteL s).getD (2 * k) 0)
        · have BAD := Lib.hid (bad_of (by rw [HL.out]; omega) q1)
          have Z1 := Lib.hid (rdig_bad q1)
          obtain ⟨z2, hz2⟩ : ∃ z2, rdig ((byteL s).getD (2 * k + 1) 0) = z2 := ⟨_, rfl⟩
          have Z2 := Lib.hid hz2
          clear q1 hz2
          generalize (byteL s).getD (2 * k) 0 = x at *
          generalize (byteL s).getD (2 * k + 1) 0 = y at *
          go_wp2_with fail
          go_quiet (first | with_reducible exact refdig_q x r1.1 r1.2 (-1) Z1.out | with_reducible exact refdig_q y r2.1 r2.2 z2 Z2.out)
          go_wp2_with fail
          go_ret2
          exact UnS.bad BAD.out (HP.out.o.drewN _).bw rfl
        · cases q2 : digOk ((byteL s).getD (2 * k + 1) 0)
          · have BAD := Lib.hid (bad_of (by rw [HL.out]; omega) q2)
            have Z1 := Lib.hid (rdig_ok q1)
            have Z2 := Lib.hid (rdig_bad q2)
            have z1 := (digV_range ((byteL s).getD (2 * k) 0)).1
            clear q1 q2
            generalize (byteL s).getD (2 * k) 0 = x at *
            generalize (byteL s).getD (2 * k + 1) 0 = y at *
            generalize digV x = p at *
            go_wp2_with fail
            go_quiet (first | with_reducible exact refdig_q x r1.1 r1.2 p Z1.out | with_reducible exact refdig_q y r2.1 r2.2 (-1) Z2.out)
            go_wp2_with fail
            go_ret2
            exact UnS.bad BAD.out (HP.out.o.drewN _).bw rfl
          · have Q1 := Lib.hid q1; have Q2 := Lib.hid q2
            have Z1 := Lib.hid (rdig_ok q1)
            have Z2 := Lib.hid (rdig_ok q2)
            have z1 := digV_range ((byteL s).getD (2 * k) 0)
            have z2 := digV_range ((byteL s).getD (2 * k + 1) 0)
            have z3 := z1.1
            have z4 := z1.2
            have z5 := z2.1
            have z6 := z2.2
            clear q1 q2 z1 z2
            generalize hx : (byteL s).getD (2 * k) 0 = x at d1 r1 UB Z1 z3 z4
            generalize hy : (byteL s).getD (2 * k + 1) 0 = y at d2 r2 UB Z2 z5 z6
            clear hx hy
            generalize digV x = p at *
            generalize digV y = q at *
            have LL := Lib.hid (unL_len (byteL s) k)
            go_wp2_with fail
            go_quiet (first | with_reducible exact refdig_q x r1.1 r1.2 p Z1.out | with_reducible exact refdig_q y r2.1 r2.2 q Z2.out)
            clear d1 d2 v1
            have zl : (unL (byteL s) k).length ≤ 4096 := by rw [LL.out]; omega
            go_wp2_with (with_reducible refine wpList_append_bytes rfl (.tmp 33) (.tmp 39) rfl w.heap.size v (unL (byteL s) k).length (unL (byteL s) k) rfl ((HP.out.o.drewN nq).o.alloc _) (some ⟨(wr.drewN nq).heap.size, 0, none⟩) 1 1 [16 * p + q] rfl (one_bs _ _) (one_len _) no_nil (by omega) ((HP.out.o.drewN nq).base _) ?_)
            intro v1 w1 o1 g1
            have KEY := Lib.hid ((HP.out.o.drewN nq).push o1 g1)
            clear o1 g1
            go_wp2_with fail
            go_roundw
            case rel =>
              refine ⟨k + 1, v1, by omega, rfl, by go_num, ?_, fun j hj => ?_⟩
              · rw [unL_succ, UB.out, show p * 16 + q = 16 * p + q by omega]
                exact KEY.out
              · rcases (show j < 2 * k ∨ j = 2 * k ∨ j = 2 * k + 1 by omega) with h | rfl | rfl
                · exact HP.out.ok j h
                · exact Q1.out
                · exact Q2.out
            case measure => simp [intOf]; omega
      · obtain rfl : k = m := by omega
        have RES := Lib.hid (show UnS w (byteL s) (.returned (.tuple #[v, .int .u8 0])) wr by
          have hl2 : (byteL s).length / 2 = k := by rw [HL.out]; omega
          refine ⟨HP.out.o.bw, ?_⟩
          rw [HP.out.all (by rw [HL.out]; omega), if_pos rfl, hl2]
          exact ⟨v, rfl, HP.out.o.o⟩)
        go_wp2_with fail
        go_ret2
        exact RES.out
  · have BAD := Lib.hid (show goodU (byteL s) = false by
      unfold goodU
      rw [HL.out, decide_eq_false (by omega)]; rfl)
    have t0 : ((s.size : Nat) : Int) % 2 = 1 := by omega
    go_enter Tryd.func24, Tryd.ntmps24
    go_wp2_with fail
    go_ret2
    exact UnS.bad BAD.out (Below.refl _ _) rfl
end Go.Proofs.YtldonfgdomeacaaDoor
