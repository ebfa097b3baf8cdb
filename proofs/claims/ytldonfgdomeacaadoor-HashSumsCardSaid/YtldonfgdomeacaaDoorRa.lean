/- The contract of the reference's Canon. -/
import Derived.Test.YtldonfgdomeacaaDoorLp
namespace Go.Proofs.YtldonfgdomeacaaDoor
open Go.RowKit

def canonTo (s : HS) (k : Nat) : List Int := s.tail.take (heldN s.n) ++ List.replicate (k - heldN s.n) 0 ++ s.tail.drop k
theorem canonTo_len {s : HS} (h : s.tail.length = 64) {k : Nat} (h1 : heldN s.n ≤ k) (h2 : k ≤ 64) : (canonTo s k).length = 64 := by simp [canonTo]; omega
theorem canonTo_start {s : HS} : canonTo s (heldN s.n) = s.tail := by simp [canonTo]
theorem canonTo_end {s : HS} (h : s.tail.length = 64) : canonTo s 64 = (canonH s).tail := by
  unfold canonTo canonH
  rw [List.drop_of_length_le (by omega), List.append_nil]
theorem canonTo_set {s : HS} (h : s.tail.length = 64) {k : Nat} (h1 : heldN s.n ≤ k) (h2 : k < 64) : (canonTo s k).set k 0 = canonTo s (k + 1) := by
  unfold canonTo
  rw [List.set_append_right _ _ (by simp; omega)]
  have e : k - (s.tail.take (heldN s.n) ++ List.replicate (k - heldN s.n) (0 : Int)).length = 0 := by simp; omega
  rw [e, List.drop_eq_getElem_cons (by omega), List.set_cons_zero, show k + 1 - heldN s.n = (k - heldN s.n) + 1 by omega, List.replicate_succ']
  simp
theorem hsL_set {s : HS} {k : Nat} (x : Int) : (hsL s).set (9 + k) (.int .u8 x) = hsL ⟨s.st, s.n, s.tail.set k x⟩ := by
  unfold hsL
  rw [List.set_append_right _ _ (by rw [stL_len]; omega), stL_len, show 9 + k - 8 = k + 1 by omega, List.set_cons_succ]
  unfold U8
  rw [List.map_set]
theorem Row.tail_cell {w : World} {b : Nat} {T : TypeId} {s : HS} (h : Row w b T (hsL s)) (k : Nat) (hk : k < s.tail.length) : w.cell? ⟨b, 9 + k, none⟩ = some (.int .u8 (s.tail.getD k 0)) :=
  h.tail_at k _ (U8_get (getD_some hk))
structure CX (w : World) (s : HS) (k : Nat) (wr : World) : Prop where
  r1 : Row wr w.heap.size 32 (hsL ⟨s.st, s.n, canonTo s k⟩)
  r2 : Row wr (w.heap.size + 1) 32 (hsL ZS)
  bw : Below w.heap.size w wr
def CXR (w : World) (s : HS) (v : Value) (wr : World) : Prop := ∃ k : Nat, heldN s.n ≤ k ∧ k ≤ 64 ∧ v = .int .i64 k ∧ CX w s k wr
theorem CX.step {w wr : World} {s : HS} {k : Nat} (H : CX w s k wr) (h : s.tail.length = 64) (h1 : heldN s.n ≤ k) (h2 : k < 64) : CX w s (k + 1) (wr.setCell ⟨w.heap.size, 9 + k, none⟩ (.int .u8 0)) := by
  refine ⟨?_, H.r2.setOther (by omega) _, H.bw.setCell (by simp) _⟩
  have h3 := H.r1.set (9 + k) (.int .u8 0)
  rwa [hsL_set, canonTo_set h h1 h2] at h3
set_option maxRecDepth 100000 in
theorem canon_any (s : HS) (w : World) (hs : HSR s) : Calls Tryd.prog 22 #[.agg (hsL s).toArray] w fun e w' => e = .returned (.agg (hsL (canonH s)).toArray) ∧ Below w.heap.size w w' := by
  have SO := Lib.hid hs
  have n0 := hs.2.1.1
  have n1 := hs.2.1.2
  have hl := heldN_lt s.n
  clear hs
  go_enter Tryd.func22, Tryd.ntmps22
  go_upto_region 0 with fail
  go_cut [1, 2] (fun v1 v2 wx => F0 w s v1 v2 wx)
  case first =>
    go_wp2_with (with_reducible refine wpList_value rfl _ _ (exec_alloc rfl zero32) ?_)
    go_meet
    refine ⟨rfl, by rw [World.size_alloc], ?_, ?_, by simp, ?_⟩
    · exact (Row.new w 32 (hsL s)).alloc _
    · have h := Row.new (w.alloc (.cells (hsL s).toArray 32)) 32 (hsL ZS)
      rw [World.size_alloc] at h
      exact h
    · exact ((Below.refl _ _).alloc (Nat.le_refl _) _).alloc (by simp) _
  case rest =>
    obtain ⟨rfl, rfl, r1, r2, sz, bw⟩ := hcut
    obtain ⟨w1, rfl⟩ : ∃ w1 : World, w1 = wc := ⟨_, rfl⟩
    have hn := r1.n_at
    have ST := Lib.hid (show CX w s (heldN s.n) w1 from ⟨by rw [canonTo_start]; exact r1, r2, bw⟩)
    clear r1 r2 sz bw
    go_upto_region 1 with fail
    go_cut [3] (fun v wx => SameW (.int .i64 (heldN s.n)) w1 v wx)
    case first =>
      go_wp2_with fail
      go_meet
      exact ⟨by rw [heldN_cast], rfl⟩
    case rest =>
      clear hn
      obtain ⟨rfl, rfl⟩ := hcut
      go_wp2_with fail
      go_loopw [3] (fun v wr => CXR w s v wr) (fun v _ => 64 - (intOf v).toNat)
      case atStart => exact ⟨_, Nat.le_refl _, by omega, rfl, ST.out⟩
      case round =>
        clear ST
        obtain ⟨k, hk1, hk2, rfl, hP⟩ := hrel
        have HP := Lib.hid hP
        by_cases hlt : k < 64
        · have hd : decide ((k : Int) < 64) = true := by simp; omega
          have k0 : (0 : Int) ≤ (k : Int) := by omega
          have k1 : (k : Int) < 64 := by omega
          have hc := hP.r1.tail_cell k (by rw [canonTo_len SO.out.2.2.1 hk1 hk2]; exact hlt)
          have hf := hP.r1.frozen (9 + k)
          dsimp only at hc
          generalize (canonTo s k).getD k 0 = y at *
          clear hP
          go_wp2_with fail
          go_roundw
          case rel => exact ⟨k + 1, by omega, by omega, by go_num, HP.out.step SO.out.2.2.1 hk1 hlt⟩
          case measure => simp [intOf]; omega
        · obtain rfl : k = 64 := by omega
          have CE := Lib.hid (show (HS.mk s.st s.n (canonTo s 64)) = canonH s by rw [canonTo_end SO.out.2.2.1]; rfl)
          have R1 := Lib.hid (show Row wr w.heap.size 32 (hsL (canonH s)) by rw [← CE.out]; exact hP.r1)
          have RG := Lib.hid R1.out.range
          have LEN := Lib.hid (hsL_len (canonH_range SO.out).2.2.1)
          have TH := Lib.hid (show wr.there (w.heap.size + 1) 0 73 from hP.r2.there)
          have KEY := Lib.hid (show Row (wr.setCells (w.heap.size + 1) 0 (hsL (canonH s))) (w.heap.size + 1) 32 (hsL (canonH s)) ∧ Below w.heap.size w (wr.setCells (w.heap.size + 1) 0 (hsL (canonH s))) from
            ⟨hP.r2.setAll _ (by rw [LEN.out]; rfl), below_setCells (by omega) _ _ _ hP.bw⟩)
          have ONE := Lib.hid (hsL_one (canonH s))
          clear hP HP CE hk1 hk2
          generalize hL : hsL (canonH s) = L at *
          have LE := Lib.hid hL
          clear hL
          go_wp2_with (first
            | (with_reducible refine wpList_load_mid rfl 32 (.tmp 1) rfl w.heap.size 0 rfl L _ RG.out Tryd.underlying32 ?ld ?li ?_)
            | (with_reducible refine wpList_store_mid rfl 32 (.tmp 2) (.tmp 15) rfl (w.heap.size + 1) 0 _ rfl rfl ?ht ?hi ?h1 ?_))
          case ld => rfl
          case li => rw [LEN.out]; exact info32
          case ht => rw [show L.toArray.size = 73 from LEN.out]; exact TH.out
          case hi => rw [show L.toArray.size = 73 from LEN.out]; exact info32
          case h1 => exact ONE.out
          exact bodyPost_ret (results_cell rfl _ _ _ (w.heap.size + 1) L _ rfl KEY.out.1.range Tryd.underlying32 rfl (by rw [LEN.out]; exact info32)) rfl ⟨by rw [LE.out], KEY.out.2⟩
end Go.Proofs.YtldonfgdomeacaaDoor
