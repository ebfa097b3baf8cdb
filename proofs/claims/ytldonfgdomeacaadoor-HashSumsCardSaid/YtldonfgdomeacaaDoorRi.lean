/- The contracts of the reference's Start and Feed. -/
import Derived.Test.YtldonfgdomeacaaDoorRg
import Derived.Test.YtldonfgdomeacaaDoorRa
namespace Go.Proofs.YtldonfgdomeacaaDoor
open Go.RowKit

set_option maxRecDepth 100000 in
theorem refstart_any (w : World) : Calls Tryd.prog 19 #[] w fun e w' => e = .returned (.agg (hsL startH).toArray) ∧ Below w.heap.size w w' := by
  go_enter Tryd.func19, Tryd.ntmps19
  have TH := Lib.hid (Row.new w 32 (hsL ZS)).there
  go_wp2_with (first
    | (with_reducible refine wpList_value rfl _ _ (exec_alloc rfl zero32) ?_)
    | (with_reducible refine wpList_value rfl _ _ (exec_build (vals := #[(0, .int .u32 1779033703), (1, .int .u32 3144134277), (2, .int .u32 1013904242), (3, .int .u32 2773480762), (4, .int .u32 1359893119), (5, .int .u32 2600822924), (6, .int .u32 528734635), (7, .int .u32 1541459225)]) rfl ?hp (build28 _)) ?_)
    | (with_reducible refine wpList_value rfl _ _ (exec_build (vals := #[(0, .agg (U32 (stL H0)).toArray)]) rfl ?hp2 (build32s _)) ?_)
    | (with_reducible refine wpList_store_mid rfl 32 _ _ rfl w.heap.size 0 _ rfl rfl ?ht ?hi ?h1 ?_))
  case hp => simp only [List.map_toArray, List.map_cons, List.map_nil]; rfl
  case ht => exact TH.out
  case hi => exact info32
  case h1 => exact hsL_one _
  have KEY := (Row.new w 32 (hsL ZS)).setAll (hsL startH) rfl
  exact bodyPost_ret (results_cell rfl _ _ _ w.heap.size (hsL startH) _ rfl KEY.range Tryd.underlying32 rfl info32) rfl ⟨rfl, below_setCells (Nat.le_refl _) _ _ _ ((Below.refl _ _).alloc (Nat.le_refl _) _)⟩
theorem refblock_row (s : St) (bs : List Int) (w : World) (hb : Bytes bs) (hs : StR s) : Calls Tryd.prog 28 #[.agg (U32 (stL s)).toArray, .agg (U8 bs).toArray] w fun e w' => e = .returned (.agg (U32 (stL (blockS s bs))).toArray) ∧ Below w.heap.size w w' := refblock_any s bs w hb hs
/-- The state in the function's own memory. -/
structure FX (w : World) (s : HS) (wx : World) : Prop where
  r2 : Row wx w.heap.size 32 (hsL s)
  r4 : Row wx (w.heap.size + 1) 32 (hsL ZS)
  bw : Below w.heap.size w wx
theorem FX.drew {w wx : World} {s : HS} (h : FX w s wx) : FX w s wx.drew := ⟨h.r2, h.r4, h.bw.drew⟩
def FXR (w : World) (s : HS) (bs : List Int) (m : Nat) (v : Value) (wx : World) : Prop := ∃ k : Nat, k ≤ m ∧ v = .int .i64 k ∧ FX w (atK s bs k) wx
theorem FX.setTail {w wx : World} {s : HS} (H : FX w s wx) (k : Nat) (x : Int) : FX w ⟨s.st, s.n, s.tail.set k x⟩ (wx.setCell ⟨w.heap.size, 9 + k, none⟩ (.int .u8 x)) :=
  ⟨by have h := H.r2.set (9 + k) (.int .u8 x); rwa [hsL_set] at h, H.r4.setOther (by omega) _, H.bw.setCell (by simp) _⟩
theorem FX.setN {w wx : World} {s : HS} (H : FX w s wx) (n : Int) : FX w ⟨s.st, n, s.tail⟩ (wx.setCell ⟨w.heap.size, 8, none⟩ (.int .u64 n)) :=
  ⟨by have h := H.r2.set 8 (.int .u64 n); exact h, H.r4.setOther (by omega) _, H.bw.setCell (by simp) _⟩
theorem atK_zero (s : HS) (bs : List Int) : atK s bs 0 = canonH s := rfl
theorem atK_succ (s : HS) (bs : List Int) {k : Nat} (hk : k < bs.length) : atK s bs (k + 1) = stepH (atK s bs k) (bs.getD k 0) := by
  unfold atK feedH
  rw [take_snocI bs hk, List.foldl_append]
  rfl
end Go.Proofs.YtldonfgdomeacaaDoor
