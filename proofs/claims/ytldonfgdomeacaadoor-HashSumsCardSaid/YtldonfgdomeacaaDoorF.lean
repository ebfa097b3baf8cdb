/- The plain padding and the plain sum; the contract of hash's Start. -/
import Derived.Test.YtldonfgdomeacaaDoorE
import Derived.Laws.MakeOwn
namespace Go.Proofs.YtldonfgdomeacaaDoor
open Go.RowKit

def startH : HS := ⟨H0, 0, Z64⟩
def zN (n : Int) : Nat := (119 - heldN n) % 64
def lenAt (n : Int) (i : Nat) : Int := (8 * n) % 18446744073709551616 / 2 ^ (56 - 8 * i) % 256
def lenB (n : Int) : List Int := (List.range 8).map (lenAt n)
def padH (n : Int) : List Int := 128 :: (List.replicate (zN n) 0 ++ lenB n)
def outAt (s : St) (i : Nat) : Int := (stL s).getD (i / 4) 0 / 2 ^ (24 - 8 * (i % 4)) % 256
def outH (s : St) : List Int := (List.range 32).map (outAt s)
def finH (s : HS) : List Int := outH (feedH s (padH s.n)).st
def sumH (bs : List Int) : List Int := finH (feedH startH bs)
theorem startH_range : HSR startH := ⟨by simp [StR, startH, H0], ⟨by decide, by decide⟩, Z64_bytes⟩
theorem zN_lt (n : Int) : zN n < 64 := by unfold zN; omega
theorem lenB_len (n : Int) : (lenB n).length = 8 := by simp [lenB]
theorem padH_len (n : Int) : (padH n).length = 1 + zN n + 8 := by simp [padH, lenB]; omega
theorem padH_by (n : Int) : By (padH n) := fun x hx => by
  unfold padH at hx
  rcases List.mem_cons.1 hx with rfl | hx
  · omega
  · rcases List.mem_append.1 hx with hx | hx
    · obtain ⟨_, rfl⟩ := List.mem_replicate.1 hx; omega
    · obtain ⟨i, _, rfl⟩ := List.mem_map.1 hx
      unfold lenAt; omega
theorem outH_by (s : St) : By (outH s) := fun x hx => by
  obtain ⟨i, _, rfl⟩ := List.mem_map.1 hx
  unfold outAt; omega
theorem outH_len (s : St) : (outH s).length = 32 := by simp [outH]

theorem build28 (w : World) : (Instr.build 28 #[(0, .int .u32 1779033703), (1, .int .u32 3144134277), (2, .int .u32 1013904242), (3, .int .u32 2773480762), (4, .int .u32 1359893119), (5, .int .u32 2600822924), (6, .int .u32 528734635), (7, .int .u32 1541459225)]).run Tryd.prog w = .ok (.agg (U32 (stL H0)).toArray) w := by kernel_rfl
theorem build32s (w : World) : (Instr.build 32 #[(0, .agg (U32 (stL H0)).toArray)]).run Tryd.prog w = .ok (.agg (hsL startH).toArray) w := by kernel_rfl
set_option maxRecDepth 100000 in
theorem start_any (w : World) : Calls Tryd.prog 16 #[] w fun e w' => e = .returned (hsV startH) ∧ Below w.heap.size w w' := by
  go_enter Tryd.func16, Tryd.ntmps16
  have TH := Lib.hid (Row.new w 32 (hsL ZS)).there
  go_wp2_with (first
    | (with_reducible refine wpList_value rfl _ _ (exec_alloc rfl zero32) ?_)
    | (with_reducible refine wpList_value rfl _ _ (exec_build (vals := #[(0, .int .u32 1779033703), (1, .int .u32 3144134277), (2, .int .u32 1013904242), (3, .int .u32 2773480762), (4, .int .u32 1359893119), (5, .int .u32 2600822924), (6, .int .u32 528734635), (7, .int .u32 1541459225)]) rfl ?hp (build28 _)) ?_)
    | (with_reducible refine wpList_value rfl _ _ (exec_build (vals := #[(0, .agg (U32 (stL H0)).toArray)]) rfl ?hp2 (build32s _)) ?_)
    | (with_reducible refine wpList_store_mid rfl 32 _ _ rfl w.heap.size 0 _ rfl rfl ?ht ?hi ?h1 ?_))
  case hp => simp only [List.map_toArray, List.map_cons, List.map_nil]; rfl
  case ht => exact TH.out
  case hi => exact info32
  case h1 => exact hsL_one _
  have KEY := (Row.new w 32 (hsL ZS)).setAll (hsL startH) rfl
  exact bodyPost_ret (results_cell rfl _ _ _ w.heap.size (hsL startH) _ rfl KEY.range Tryd.underlying32 rfl info32) rfl ⟨rfl, below_setCells (Nat.le_refl _) _ _ _ ((Below.refl _ _).alloc (Nat.le_refl _) _)⟩

theorem zero24 : (Tryd.prog.info? 24).bind (·.zero) = some (.agg (U8 (List.replicate 32 0)).toArray) := by kernel_rfl
theorem info5z : (Tryd.prog.info? 5).map (fun i => (i.size, i.zero, i.bytes)) = some (1, some (.int .u8 0), 1) := by kernel_rfl
theorem made_U8 (n : Nat) : madeCells #[.int .u8 0] n = (U8 (List.replicate n 0)).toArray := by
  apply Array.ext
  · simp [madeCells, U8]
  · intro i h1 h2
    simp [madeCells, U8, Nat.mod_one]
theorem make22 (w : World) (l c : Nat) (hlc : l ≤ c) (hc : c ≤ 65536) : (Instr.makeSlice 22 (.int .i64 l) (.int .i64 c)).run Tryd.prog w = .ok (.slice (some ⟨w.heap.size, 0, none⟩) l c) (w.alloc (.cells (U8 (List.replicate c 0)).toArray 5)) := by
  have h := info5z
  rw [Option.map_eq_some_iff] at h
  obtain ⟨i, hi, he⟩ := h
  injection he with h1 h2
  injection h2 with h2 h3
  have hr := run_make (P := Tryd.prog) w 22 5 i (.int .u8 0) Tryd.underlying22 hi h2 .i64 .i64 l c (by omega) (by omega) (by rw [h3]; omega) (by omega)
  rw [hr, h1, Nat.mul_one, Int.toNat_natCast, Int.toNat_natCast]
  rw [show (Value.int IntKind.u8 0).cells = #[.int .u8 0] from rfl, made_U8]
theorem exec_make {ρ : Operand → Value} {op : Oper} {x y : Operand} {l c : Nat} {w : World} (ho : op.op = .makeSlice 22 x y) (h1 : ρ x = .int .i64 (l : Nat)) (h2 : ρ y = .int .i64 (c : Nat)) (hlc : l ≤ c) (hc : c ≤ 65536) :
    (execOp ρ op).run Tryd.prog w = .ok (.value (.slice (some ⟨w.heap.size, 0, none⟩) l c)) (w.alloc (.cells (U8 (List.replicate c 0)).toArray 5)) := by
  unfold execOp
  simp only [ho, h1, h2, Sem.run_bind, make22 w l c hlc hc, Result.andThen_ok, Sem.run_pure]
/-- The padding with i bytes of the length laid. -/
def padTo (n : Int) (i : Nat) : List Int := 128 :: (List.replicate (zN n) 0 ++ ((lenB n).take i ++ List.replicate (8 - i) 0))
theorem padTo_len (n : Int) {i : Nat} (hi : i ≤ 8) : (padTo n i).length = 1 + zN n + 8 := by simp [padTo, lenB_len]; omega
theorem padTo_set (n : Int) {i : Nat} (hi : i < 8) : (padTo n i).set (1 + zN n + i) (lenAt n i) = padTo n (i + 1) := by
  have e1 : (lenB n).take (i + 1) = (lenB n).take i ++ [lenAt n i] := by
    rw [List.take_succ_eq_append_getElem (by rw [lenB_len]; exact hi)]
    simp [lenB]
  have e2 : List.replicate (8 - i) (0 : Int) = 0 :: List.replicate (8 - (i + 1)) 0 := by
    rw [show 8 - i = (8 - (i + 1)) + 1 by omega, List.replicate_succ]
  unfold padTo
  rw [e1, e2, show 1 + zN n + i = (zN n + i) + 1 by omega, List.set_cons_succ, List.set_append_right _ _ (by simp)]
  rw [List.length_replicate, Nat.add_sub_cancel_left, List.set_append_right _ _ (by rw [List.length_take, lenB_len]; omega)]
  rw [List.length_take, lenB_len, Nat.min_eq_left (by omega), Nat.sub_self, List.set_cons_zero]
  simp
theorem padTo_zero (n : Int) : padTo n 0 = 128 :: List.replicate (zN n + 8) 0 := by
  unfold padTo
  rw [List.take_zero, List.nil_append, List.replicate_append_replicate]
theorem padTo_all (n : Int) : padTo n 8 = padH n := by
  unfold padTo padH
  rw [List.take_of_length_le (by rw [lenB_len]; omega)]
  simp
end Go.Proofs.YtldonfgdomeacaaDoor
