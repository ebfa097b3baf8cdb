/- The law HashSplits: the walk. -/
import Derived.Test.YtldonfgdomeacaaDoorLp
namespace Go.Proofs.YtldonfgdomeacaaDoor
open Go.RowKit

theorem By.append {a b : List Int} (ha : By a) (hb : By b) : By (a ++ b) := fun x hx => by
  rcases List.mem_append.1 hx with h | h
  · exact ha x h
  · exact hb x h
set_option maxRecDepth 100000 in
set_option maxHeartbeats 400000 in
theorem splits_any (w : World) (s : HS) (hs : HSR s) (A : Option Addr) (n c : Nat) (bs : List Int) (hb : By bs) (hn : bs.length = n) (hc : n ≤ c) (hA : Bs w w.heap.size A bs) (hnil : A = none → n = 0 ∧ c = 0)
    (A2 : Option Addr) (n2 c2 : Nat) (bs2 : List Int) (hb2 : By bs2) (hn2 : bs2.length = n2) (hc2 : n2 ≤ c2) (hA2 : Bs w w.heap.size A2 bs2) (hnil2 : A2 = none → n2 = 0 ∧ c2 = 0) (hK : KC w) :
    Calls Tryd.prog 5 #[hsV s, .slice A n c, .slice A2 n2 c2] w fun e w' => e = .returned (.bool true) ∧ Below w.heap.size w w' := by
  have HS := Lib.hid hs; have HB := Lib.hid hb; have HN := Lib.hid hn; have HA := Lib.hid hA; have HK := Lib.hid hK; have HL := Lib.hid hnil
  have HB2 := Lib.hid hb2; have HN2 := Lib.hid hn2; have HA2 := Lib.hid hA2; have HL2 := Lib.hid hnil2
  clear hs hb hn hA hK hnil hb2 hn2 hA2 hnil2
  unfold hsV
  have R0 := Lib.hid (Row.new w 32 (hsL s))
  have B0 := Lib.hid (show Below w.heap.size w (w.alloc (.cells (hsL s).toArray 32)) from (Below.refl _ _).alloc (Nat.le_refl _) _)
  by_cases h1 : 4000 < n
  · have d1 : decide (4000 < (n : Int)) = true := by simp; omega
    go_enter Tryd.func5, Tryd.ntmps5
    go_wp2_with fail
    refine (lives_any _ (HK.out.below B0.out)).mono ?_
    rintro e w1 ⟨rfl, hb1⟩
    have B1 := Lib.hid (B0.out.trans (hb1.mono B0.out.size))
    clear hb1
    go_wp2_with fail
    go_ret
    exact ⟨rfl, B1.out⟩
  · have d1 : decide (4000 < (n : Int)) = false := by simp; omega
    by_cases h2 : 4000 < n2
    · have d2 : decide (4000 < (n2 : Int)) = true := by simp; omega
      go_enter Tryd.func5, Tryd.ntmps5
      go_wp2_with fail
      refine (lives_any _ (HK.out.below B0.out)).mono ?_
      rintro e w1 ⟨rfl, hb1⟩
      have B1 := Lib.hid (B0.out.trans (hb1.mono B0.out.size))
      clear hb1
      go_wp2_with fail
      go_ret
      exact ⟨rfl, B1.out⟩
    · have d2 : decide (4000 < (n2 : Int)) = false := by simp; omega
      go_enter Tryd.func5, Tryd.ntmps5
      go_wp2_with (with_reducible refine wpList_append_bytes rfl (.tmp 17) (.tmp 18) rfl (w.heap.size + 1) (.slice none 0 0) 0 [] rfl (World.ownsRow_nil _ _ _ _) A n c bs rfl ?hB HN.out HL.out (by omega) ?hbase ?_)
      case hB => exact (HA.out.below B0.out).up (by simp)
      case hbase => simp
      intro v1 w1 ho1 hg1
      have B1 := Lib.hid (show Below (w.heap.size + 1) (w.alloc (.cells (hsL s).toArray 32)) w1 from (Below.refl _ _).grown hg1 (by simp) (fun k hk => by cases hk))
      have BW1 := Lib.hid (B0.out.trans (B1.out.mono (by omega)))
      have R1 := Lib.hid (show Row w1 w.heap.size 32 (hsL s) from R0.out.of (B1.out.block _ (by omega)))
      have O1 := Lib.hid ho1
      have Z1 := Lib.hid (show w.heap.size + 1 ≤ w1.heap.size from by have := hg1.size; simpa using this)
      have OB := Lib.hid (show ∀ k, v1.ownBlock = some k → w.heap.size + 1 ≤ k from fun k hk => by
        rcases O1.out.2 with ⟨rfl, _⟩ | ⟨g, cap, cur, rfl, hb, _⟩
        · cases hk
        · simp [Value.ownBlock] at hk; omega)
      clear ho1 hg1 R0
      go_wp2_with (with_reducible refine wpList_append_bytes rfl (.tmp 20) (.tmp 21) rfl (w.heap.size + 1) v1 n bs rfl O1.out A2 n2 c2 bs2 rfl ?hB2 HN2.out HL2.out (by omega) Z1.out ?_)
      case hB2 => exact (HA2.out.below BW1.out).up BW1.out.size
      intro v2 w2 ho2 hg2
      have B2 := Lib.hid (show Below (w.heap.size + 1) (w.alloc (.cells (hsL s).toArray 32)) w2 from B1.out.grown hg2 Z1.out OB.out)
      have BW2 := Lib.hid (B0.out.trans (B2.out.mono (by omega)))
      have R2 := Lib.hid (show Row w2 w.heap.size 32 (hsL s) from (Row.new w 32 (hsL s)).of (B2.out.block _ (by omega)))
      obtain ⟨A3, c3, rfl, hc3, hl3, hB3⟩ := owns_slice ho2
      have HL3 := Lib.hid hl3; have HB3 := Lib.hid hB3
      have K2 := Lib.hid (HK.out.below BW2.out)
      have HA1' := Lib.hid ((HA.out.below BW2.out).up BW2.out.size)
      have HA2' := Lib.hid ((HA2.out.below BW2.out).up BW2.out.size)
      clear ho2 hg2 hl3 hB3 B1 BW1 R1 O1 Z1 OB B2 HA HA2 HK HL HL2
      have LEN := Lib.hid (hsL_len HS.out.2.2.1)
      have FF := Lib.hid (feed_feed HS.out.2.2.1 bs bs2)
      have EQ := fun w => eq32 (feedH s (bs ++ bs2)) (feedH_range HS.out (HB.out.append HB2.out)) w
      go_wp2_with fail
      refine region_bw (by kernel_rfl) (by kernel_rfl) ?_
      go_big_quiet_want
      refine quiet_load 32 (.tmp 3) rfl w.heap.size rfl (hsL s) 32 _ R2.out Tryd.underlying32 rfl (by rw [LEN.out]; exact info32) ?_
      simp only [Act.put, List.setIfInBounds_toArray, List.set_cons_zero, List.set_cons_succ]
      go_big_quiet_on
      go_big_quiet_step (fail)
      go_big_quiet_step (exact calls_bw (feed_row s A n c bs _ HS.out HB.out ((HA1'.out.below (BW.h _)).up (BW.h _).size) HN.out hc (by omega) (K2.out.below (BW.h _))))
      go_big_quiet_step (fail)
      go_big_quiet_step (exact calls_bw (feed_row (feedH s bs) A2 n2 c2 bs2 _ (feedH_range HS.out HB.out) HB2.out ((HA2'.out.below (BW.h _)).up (BW.h _).size) HN2.out hc2 (by omega) (K2.out.below (BW.h _))))
      go_big_quiet_want
      refine quiet_load 32 (.tmp 3) rfl w.heap.size rfl (hsL s) 32 _ R2.out Tryd.underlying32 rfl (by rw [LEN.out]; exact info32) ?_
      simp only [Act.put, List.setIfInBounds_toArray, List.set_cons_zero, List.set_cons_succ]
      go_big_quiet_on
      go_big_quiet_step (fail)
      go_big_quiet_step (exact calls_bw (feed_row s A3 (n + n2) c3 (bs ++ bs2) _ HS.out (HB.out.append HB2.out) ((HB3.out.below (BW.h _)).up (BW.h _).size) HL3.out hc3 (by omega) (K2.out.below (BW.h _))))
      rw [FF.out]
      go_big_quiet_step (fail)
      go_big_quiet_step (fail)
      go_big_quiet_step (exact calls_bw (lives_any _ (K2.out.below (BW.h _))))
      go_big_quiet_step (fail)
      go_big_quiet_step (fail)
      refine wpQuiet_nil ?_
      intro w9 hw9
      obtain ⟨x, rfl⟩ := hw9
      have BX := Lib.hid (BW2.out.trans (x.h.mono BW2.out.size))
      clear EQ
      go_wp2_with fail
      go_ret
      exact ⟨rfl, BX.out⟩
end Go.Proofs.YtldonfgdomeacaaDoor
