/- The law HashSingle. -/
import Derived.Test.YtldonfgdomeacaaDoorK
import Derived.Test.YtldonfgdomeacaaDoorM
import Derived.Test.YtldonfgdomeacaaDoorQ
import Derived.Test.YtldonfgdomeacaaDoorN
namespace Go.Proofs.YtldonfgdomeacaaDoor
open Go.RowKit

structure SX (w : World) (B : Nat) (bs : List Int) (k : Nat) (wr : World) : Prop where
  r : Row wr B 32 (hsL (feedH startH (bs.take k)))
  bw : Below w.heap.size w wr
  lo : w.heap.size ≤ B
def SXR (w : World) (B : Nat) (bs : List Int) (m : Nat) (v : Value) (wr : World) : Prop := ∃ k : Nat, k ≤ m ∧ v = .int .i64 k ∧ SX w B bs k wr
theorem feedS_range (bs : List Int) (h : By bs) (k : Nat) : HSR (feedH startH (bs.take k)) := feedH_range startH_range (fun x hx => h x (List.mem_of_mem_take hx))
theorem feedS_n (bs : List Int) {k : Nat} (hk : k ≤ bs.length) (hs : bs.length ≤ 4000) : (feedH startH (bs.take k)).n = k := by
  rw [feedH_n _ _ startH_range.2.1, List.length_take, Nat.min_eq_left hk]
  show ((0 : Int) + k) % 18446744073709551616 = k
  omega
theorem feedS_step (bs : List Int) {k : Nat} (hk : k < bs.length) : feedH (feedH startH (bs.take k)) [bs.getD k 0] = feedH startH (bs.take (k + 1)) := by
  rw [feed_feed rfl, take_snocI bs hk]
/-- A store of a state over a state. -/
theorem run_stS {w : World} {B : Nat} {s t : HS} (h : Row w B 32 (hsL s)) (hs : s.tail.length = 64) (ht : t.tail.length = 64) :
    (storeVar 32 ⟨B, 0, none⟩ (.agg (hsL t).toArray)).run Tryd.prog w = .ok () (w.setCells B 0 (hsL t)) := by
  have h1 := h.there
  rw [hsL_len hs] at h1
  exact run_storeVar_mid (P := Tryd.prog) w B 0 32 (hsL t).toArray (by rw [show (hsL t).toArray.size = 73 from hsL_len ht]; exact h1) (by rw [show (hsL t).toArray.size = 73 from hsL_len ht]; exact info32) (hsL_one t)
theorem run_ldS {w : World} {B : Nat} {s : HS} (h : Row w B 32 (hsL s)) (hs : s.tail.length = 64) :
    (loadVar 32 ⟨B, 0, none⟩).run Tryd.prog w = .ok (.agg (hsL s).toArray) w :=
  run_loadVar_mid (P := Tryd.prog) w B 0 32 (hsL s) _ h.range Tryd.underlying32 rfl (by rw [hsL_len hs]; exact info32)
theorem Row.set_stS {w : World} {B : Nat} {s t : HS} (h : Row w B 32 (hsL s)) (hs : s.tail.length = 64) (ht : t.tail.length = 64) : Row (w.setCells B 0 (hsL t)) B 32 (hsL t) := h.setAll (hsL t) (by rw [hsL_len hs, hsL_len ht])
theorem Bs.one {w : World} {B : Nat} {ad : Addr} {xs : List Int} (h : Bs w B (some ad) xs) {k : Nat} (hk : k < xs.length) : Bs w B (some (ad.add k)) [xs.getD k 0] := fun _ => by
  obtain ⟨ad', e, hb, hc⟩ := h (by omega)
  cases e
  refine ⟨_, rfl, by rw [add_block]; exact hb, fun j x hx => ?_⟩
  rw [add_add]
  match j, hx with
  | 0, hx =>
    have hx' : xs.getD k 0 = x := by simpa using hx
    rw [Nat.add_zero, ← hx']
    exact hc k _ (getD_some hk)
  | j + 1, hx => simp at hx
set_option maxRecDepth 100000 in
set_option maxHeartbeats 400000 in
theorem single_any (w : World) (A : Option Addr) (n c : Nat) (bs : List Int) (hb : By bs) (hn : bs.length = n) (hc : n ≤ c) (hA : Bs w w.heap.size A bs) (hK : KC w) :
    Calls Tryd.prog 6 #[.slice A n c] w fun e w' => e = .returned (.bool true) ∧ Below w.heap.size w w' := by
  have HB := Lib.hid hb; have HN := Lib.hid hn; have HA := Lib.hid hA; have HK := Lib.hid hK
  clear hb hn hA hK
  by_cases h300 : 300 < n
  · have hd : decide (300 < (n : Int)) = true := by simp; omega
    go_enter Tryd.func6, Tryd.ntmps6
    go_wp2_with fail
    refine (lives_any w HK.out).mono ?_
    rintro e w1 ⟨rfl, hb1⟩
    go_wp2_with fail
    go_ret
    exact ⟨rfl, hb1⟩
  · have hd : decide (300 < (n : Int)) = false := by simp; omega
    go_enter Tryd.func6, Tryd.ntmps6
    go_wp2_with fail
    refine (start_any w).mono ?_
    rintro e w1 ⟨rfl, hb1⟩
    have BW := Lib.hid hb1
    clear hb1
    have TH := Lib.hid (Row.new w1 32 (hsL ZS)).there
    have KEY := Lib.hid ((Row.new w1 32 (hsL ZS)).set_stS (t := startH) rfl rfl)
    unfold hsV
    go_wp2_with (first
      | (with_reducible refine wpList_value rfl _ _ (exec_alloc rfl zero32) ?_)
      | (with_reducible refine wpList_store_mid rfl 32 (.tmp 3) (.tmp 9) rfl w1.heap.size 0 _ rfl rfl ?ht ?hi ?h1 ?_))
    case ht => exact TH.out
    case hi => exact info32
    case h1 => exact hsL_one _
    have BW2 := Lib.hid (show Below w.heap.size w ((w1.alloc (.cells (hsL ZS).toArray 32)).setCells w1.heap.size 0 (hsL startH)) from below_setCells BW.out.size _ _ _ (BW.out.alloc BW.out.size _))
    have ST := Lib.hid (show hsL startH = hsL (feedH startH (bs.take 0)) by rw [List.take_zero, feed_start_nil])
    obtain ⟨B, hB⟩ : ∃ B, B = w1.heap.size := ⟨_, rfl⟩
    have LO := Lib.hid (show w.heap.size ≤ B by rw [hB]; exact BW.out.size)
    rw [← hB] at KEY BW2 ⊢
    clear hB TH BW
    go_loopw [4] (fun v wr => SXR w B bs n v wr) (fun v _ => n - (intOf v).toNat)
    case atStart => exact ⟨0, Nat.zero_le _, rfl, by rw [← ST.out]; exact KEY.out, BW2.out, LO.out⟩
    case round =>
      clear KEY BW2 ST
      obtain ⟨k, hk, rfl, hP⟩ := hrel
      have HP := Lib.hid hP
      clear hP
      by_cases hlt : k < n
      · obtain ⟨ad, rfl, hab, hac⟩ := HA.out (by rw [HN.out]; omega)
        have hd2 : decide ((k : Int) < (n : Int)) = true := by simp; omega
        have FR := Lib.hid (feedS_range bs HB.out k)
        have FN := Lib.hid (feedS_n bs (k := k + 1) (by rw [HN.out]; omega) (by rw [HN.out]; omega))
        have FS := Lib.hid (feedS_step bs (k := k) (by rw [HN.out]; exact hlt))
        have FR2 := Lib.hid (feedS_range bs HB.out (k + 1))
        have BO := Lib.hid ((HA.out.below HP.out.bw).up HP.out.bw.size |>.one (k := k) (by rw [HN.out]; exact hlt))
        have XR := Lib.hid (HB.out _ (List.mem_of_getElem? (getD_some (l := bs) (i := k) (by rw [HN.out]; exact hlt))))
        clear hab hac
        have ld := run_ldS (w := wr.drew) HP.out.r.drew FR.out.2.2.1
        have k0 : (0 : Int) ≤ (k : Int) := by omega
        have k1 : (k : Int) ≤ (k : Int) + 1 := by omega
        have k2 : (k : Int) + 1 ≤ (c : Int) := by omega
        have k3 : ((k : Int) + 1).toNat = k + 1 := by omega
        have k4 : k ≤ c := by omega
        have k5 : k + 1 ≤ c := by omega
        have k6 : ¬ c = k := by omega
        have v0 : IntKind.i64.wrap ((k : Int) + 1) = (k : Int) + 1 := IntWalk.i64_in _ (by omega)
        have RR := Lib.hid HP.out.r.drew
        generalize feedH startH (bs.take k) = s at *
        go_wp2_with fail
        refine wp_region_still_tail 6 (by kernel_rfl) (by kernel_rfl) ?_
        simp only [List.take_succ_cons, List.take_zero, List.drop_succ_cons, List.drop_zero]
        refine still_load rfl 32 (.tmp 3) rfl B rfl (hsL s) 32 _ RR.out Tryd.underlying32 rfl (by rw [hsL_len FR.out.2.2.1]; exact info32) ?_
        repeat still_step
        refine wpStill_nil ?_
        go_wp2_with fail
        clear ld k0 k1 k2 k3 k4 k5 k6 v0
        refine (feed_any s (some (ad.add k)) 1 (c - k) [bs.getD k 0] wr.drew FR.out (fun x hx => by rw [List.mem_singleton] at hx; rw [hx]; exact XR.out) BO.out rfl (by omega) (by omega) (HK.out.below HP.out.bw.drew)).mono ?_
        rintro e w5 ⟨rfl, hb5⟩
        rw [FS.out]
        have B5 := Lib.hid (HP.out.bw.drew.trans (hb5.mono HP.out.bw.drew.size))
        have R5 := Lib.hid (RR.out.below hb5)
        have R6 := Lib.hid (R5.out.set_stS FR.out.2.2.1 FR2.out.2.2.1)
        have TH := Lib.hid (show w5.there B 0 73 by
          have h := R5.out.there
          rwa [hsL_len FR.out.2.2.1] at h)
        have LEN := Lib.hid (hsL_len FR2.out.2.2.1)
        have KEY := Lib.hid (show SX w B bs (k + 1) (w5.setCells B 0 (hsL (feedH startH (bs.take (k + 1))))) from ⟨R6.out, below_setCells HP.out.lo _ _ _ B5.out, HP.out.lo⟩)
        have N8 := R6.out.n_at
        rw [FN.out] at N8
        clear hb5 B5 R5 R6 BO
        unfold hsV
        generalize feedH startH (bs.take (k + 1)) = t at *
        have ONE := Lib.hid (hsL_one t)
        have q1 : (k : Int) + 1 < 18446744073709551616 := by omega
        have q2 : (((k + 1 : Nat)) : Int) = (k : Int) + 1 := by omega
        rw [q2] at N8
        clear q2
        go_wp2_with (with_reducible refine wpList_store_mid rfl 32 (.tmp 3) (.tmp 22) rfl B 0 _ rfl rfl ?ht ?hi ?h1 ?_)
        case ht => rw [show (hsL t).toArray.size = 73 from LEN.out]; exact TH.out
        case hi => rw [show (hsL t).toArray.size = 73 from LEN.out]; exact info32
        case h1 => exact ONE.out
        go_roundw
        case rel => exact ⟨k + 1, by omega, by go_num, KEY.out⟩
        case measure => simp [intOf]; omega
      · obtain rfl : k = n := by omega
        have R := HP.out.r
        rw [List.take_of_length_le (by rw [HN.out]; omega)] at R
        have RR := Lib.hid R
        have FR := Lib.hid (feedH_range startH_range HB.out)
        have SE := Lib.hid (show sumH bs = finH (feedH startH bs) from rfl)
        have BW := Lib.hid HP.out.bw
        clear R HP
        generalize feedH startH bs = t at *
        have LEN := Lib.hid (hsL_len FR.out.2.2.1)
        have RG := Lib.hid RR.out.range
        go_wp2_with (with_reducible refine wpList_load_mid rfl 32 (.tmp 3) rfl B 0 rfl (hsL t) _ RG.out Tryd.underlying32 ?ld ?li ?_)
        case ld => rfl
        case li => rw [LEN.out]; exact info32
        refine (finish_any t wr FR.out (HK.out.below BW.out)).mono ?_
        rintro e w5 ⟨rfl, hb5⟩
        have BW5 := Lib.hid (BW.out.trans (hb5.mono BW.out.size))
        clear hb5
        go_wp2_with fail
        refine (sum_any A k c bs w5 HB.out ((HA.out.below BW5.out).up BW5.out.size) HN.out hc (by omega) (HK.out.below BW5.out)).mono ?_
        rintro e w6 ⟨rfl, hb6⟩
        have BW6 := Lib.hid (BW5.out.trans (hb6.mono BW5.out.size))
        rw [SE.out]
        clear hb6
        have EQ := fun w => eq24 (finH t) (finH_len t) (finH_by t) w
        go_wp2_with fail
        refine (lives_any w6 (HK.out.below BW6.out)).mono ?_
        rintro e w7 ⟨rfl, hb7⟩
        have BW7 := Lib.hid (BW6.out.trans (hb7.mono BW6.out.size))
        clear hb7 EQ
        go_wp2_with fail
        go_ret
        exact ⟨rfl, BW7.out⟩
end Go.Proofs.YtldonfgdomeacaaDoor
