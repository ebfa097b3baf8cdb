/- The plain hash of a block; rotations; words for process. The contract of hash's process. -/
import Derived.Test.YtfhbpgickkibmaaGreatDoorHb
import Derived.WalkKit
import Derived.WalkSpells
import Derived.WalkLawsBesides
import Derived.Lib.Hide
import Derived.Laws.BitsAllLaws
import Derived.Deep.QuietTactic
import Derived.BigQuiet
import Derived.Outline
import Derived.Deep.RegionHeld3
import Derived.Deep.DeepCutAuto
import Derived.Deep.MidRow
import Derived.StillTailTactics
import Derived.BigRegion
namespace Go.Proofs.YtfhbpgickkibmaaGreatDoor
open Go.RowKit

def X (a b : Int) : Int := bits .xor .u32 a b
/-- x is rotated right by n bits; a is 2^n, b is 2^(32-n). -/
def rr (a b x : Int) : Int := bits .or .u32 (x / a) (x * b % 4294967296)
theorem bits_or_comm (a b : Int) : bits .or .u32 a b = bits .or .u32 b a := by
  show IntKind.u32.wrap ((BitVec.ofInt 32 a ||| BitVec.ofInt 32 b).toNat : Int) = IntKind.u32.wrap ((BitVec.ofInt 32 b ||| BitVec.ofInt 32 a).toNat : Int)
  rw [BitVec.or_comm]
theorem ret_u32 {a b : Int} (h : a = b) : Ending.returned (.int .u32 a) = .returned (.int .u32 b) := by rw [h]
theorem rotl_2 (x : Int) (w : World) (h0 : 0 ≤ x) (h1 : x < 4294967296) : Calls Tryz.prog 175 #[.int .u32 x, .int .i64 (-2)] w fun e w' => e = .returned (.int .u32 (rr 4 1073741824 x)) ∧ w = w' := by
  have hb : bits BinOp.and IntKind.u64 (IntKind.u64.wrap (-2)) 31 = 30 := by decide +kernel
  go_enter Tryz.func175, Tryz.ntmps175
  go_wp2
  go_ret
  exact ⟨ret_u32 (bits_or_comm _ _), rfl⟩
theorem rot_2 (x : Int) (w : World) (h0 : 0 ≤ x) (h1 : x < 4294967296) : Calls Tryz.prog 154 #[.int .u32 x, .int .i64 2] w fun e w' => e = .returned (.int .u32 (rr 4 1073741824 x)) ∧ w = w' := by
  go_enter Tryz.func154, Tryz.ntmps154
  go_wp2_with fail
  refine (rotl_2 x w h0 h1).mono ?_
  rintro e w' ⟨rfl, rfl⟩
  go_wp2
  go_ret
  exact ⟨rfl, rfl⟩
theorem rrot_2 (x : Int) (w : World) (h0 : 0 ≤ x) (h1 : x < 4294967296) : Calls Tryz.prog 182 #[.int .u32 x, .int .i64 2] w fun e w' => e = .returned (.int .u32 (rr 4 1073741824 x)) ∧ ∃ q, w' = w.drewN q := by
  go_enter Tryz.func182, Tryz.ntmps182
  go_wp2
  go_quiet (fail)
  go_wp2
  go_ret
  exact ⟨rfl, _, rfl⟩
theorem rotl_6 (x : Int) (w : World) (h0 : 0 ≤ x) (h1 : x < 4294967296) : Calls Tryz.prog 175 #[.int .u32 x, .int .i64 (-6)] w fun e w' => e = .returned (.int .u32 (rr 64 67108864 x)) ∧ w = w' := by
  have hb : bits BinOp.and IntKind.u64 (IntKind.u64.wrap (-6)) 31 = 26 := by decide +kernel
  go_enter Tryz.func175, Tryz.ntmps175
  go_wp2
  go_ret
  exact ⟨ret_u32 (bits_or_comm _ _), rfl⟩
theorem rot_6 (x : Int) (w : World) (h0 : 0 ≤ x) (h1 : x < 4294967296) : Calls Tryz.prog 154 #[.int .u32 x, .int .i64 6] w fun e w' => e = .returned (.int .u32 (rr 64 67108864 x)) ∧ w = w' := by
  go_enter Tryz.func154, Tryz.ntmps154
  go_wp2_with fail
  refine (rotl_6 x w h0 h1).mono ?_
  rintro e w' ⟨rfl, rfl⟩
  go_wp2
  go_ret
  exact ⟨rfl, rfl⟩
theorem rrot_6 (x : Int) (w : World) (h0 : 0 ≤ x) (h1 : x < 4294967296) : Calls Tryz.prog 182 #[.int .u32 x, .int .i64 6] w fun e w' => e = .returned (.int .u32 (rr 64 67108864 x)) ∧ ∃ q, w' = w.drewN q := by
  go_enter Tryz.func182, Tryz.ntmps182
  go_wp2
  go_quiet (fail)
  go_wp2
  go_ret
  exact ⟨rfl, _, rfl⟩
theorem rotl_7 (x : Int) (w : World) (h0 : 0 ≤ x) (h1 : x < 4294967296) : Calls Tryz.prog 175 #[.int .u32 x, .int .i64 (-7)] w fun e w' => e = .returned (.int .u32 (rr 128 33554432 x)) ∧ w = w' := by
  have hb : bits BinOp.and IntKind.u64 (IntKind.u64.wrap (-7)) 31 = 25 := by decide +kernel
  go_enter Tryz.func175, Tryz.ntmps175
  go_wp2
  go_ret
  exact ⟨ret_u32 (bits_or_comm _ _), rfl⟩
theorem rot_7 (x : Int) (w : World) (h0 : 0 ≤ x) (h1 : x < 4294967296) : Calls Tryz.prog 154 #[.int .u32 x, .int .i64 7] w fun e w' => e = .returned (.int .u32 (rr 128 33554432 x)) ∧ w = w' := by
  go_enter Tryz.func154, Tryz.ntmps154
  go_wp2_with fail
  refine (rotl_7 x w h0 h1).mono ?_
  rintro e w' ⟨rfl, rfl⟩
  go_wp2
  go_ret
  exact ⟨rfl, rfl⟩
theorem rrot_7 (x : Int) (w : World) (h0 : 0 ≤ x) (h1 : x < 4294967296) : Calls Tryz.prog 182 #[.int .u32 x, .int .i64 7] w fun e w' => e = .returned (.int .u32 (rr 128 33554432 x)) ∧ ∃ q, w' = w.drewN q := by
  go_enter Tryz.func182, Tryz.ntmps182
  go_wp2
  go_quiet (fail)
  go_wp2
  go_ret
  exact ⟨rfl, _, rfl⟩
theorem rotl_11 (x : Int) (w : World) (h0 : 0 ≤ x) (h1 : x < 4294967296) : Calls Tryz.prog 175 #[.int .u32 x, .int .i64 (-11)] w fun e w' => e = .returned (.int .u32 (rr 2048 2097152 x)) ∧ w = w' := by
  have hb : bits BinOp.and IntKind.u64 (IntKind.u64.wrap (-11)) 31 = 21 := by decide +kernel
  go_enter Tryz.func175, Tryz.ntmps175
  go_wp2
  go_ret
  exact ⟨ret_u32 (bits_or_comm _ _), rfl⟩
theorem rot_11 (x : Int) (w : World) (h0 : 0 ≤ x) (h1 : x < 4294967296) : Calls Tryz.prog 154 #[.int .u32 x, .int .i64 11] w fun e w' => e = .returned (.int .u32 (rr 2048 2097152 x)) ∧ w = w' := by
  go_enter Tryz.func154, Tryz.ntmps154
  go_wp2_with fail
  refine (rotl_11 x w h0 h1).mono ?_
  rintro e w' ⟨rfl, rfl⟩
  go_wp2
  go_ret
  exact ⟨rfl, rfl⟩
theorem rrot_11 (x : Int) (w : World) (h0 : 0 ≤ x) (h1 : x < 4294967296) : Calls Tryz.prog 182 #[.int .u32 x, .int .i64 11] w fun e w' => e = .returned (.int .u32 (rr 2048 2097152 x)) ∧ ∃ q, w' = w.drewN q := by
  go_enter Tryz.func182, Tryz.ntmps182
  go_wp2
  go_quiet (fail)
  go_wp2
  go_ret
  exact ⟨rfl, _, rfl⟩
theorem rotl_13 (x : Int) (w : World) (h0 : 0 ≤ x) (h1 : x < 4294967296) : Calls Tryz.prog 175 #[.int .u32 x, .int .i64 (-13)] w fun e w' => e = .returned (.int .u32 (rr 8192 524288 x)) ∧ w = w' := by
  have hb : bits BinOp.and IntKind.u64 (IntKind.u64.wrap (-13)) 31 = 19 := by decide +kernel
  go_enter Tryz.func175, Tryz.ntmps175
  go_wp2
  go_ret
  exact ⟨ret_u32 (bits_or_comm _ _), rfl⟩
theorem rot_13 (x : Int) (w : World) (h0 : 0 ≤ x) (h1 : x < 4294967296) : Calls Tryz.prog 154 #[.int .u32 x, .int .i64 13] w fun e w' => e = .returned (.int .u32 (rr 8192 524288 x)) ∧ w = w' := by
  go_enter Tryz.func154, Tryz.ntmps154
  go_wp2_with fail
  refine (rotl_13 x w h0 h1).mono ?_
  rintro e w' ⟨rfl, rfl⟩
  go_wp2
  go_ret
  exact ⟨rfl, rfl⟩
theorem rrot_13 (x : Int) (w : World) (h0 : 0 ≤ x) (h1 : x < 4294967296) : Calls Tryz.prog 182 #[.int .u32 x, .int .i64 13] w fun e w' => e = .returned (.int .u32 (rr 8192 524288 x)) ∧ ∃ q, w' = w.drewN q := by
  go_enter Tryz.func182, Tryz.ntmps182
  go_wp2
  go_quiet (fail)
  go_wp2
  go_ret
  exact ⟨rfl, _, rfl⟩
theorem rotl_17 (x : Int) (w : World) (h0 : 0 ≤ x) (h1 : x < 4294967296) : Calls Tryz.prog 175 #[.int .u32 x, .int .i64 (-17)] w fun e w' => e = .returned (.int .u32 (rr 131072 32768 x)) ∧ w = w' := by
  have hb : bits BinOp.and IntKind.u64 (IntKind.u64.wrap (-17)) 31 = 15 := by decide +kernel
  go_enter Tryz.func175, Tryz.ntmps175
  go_wp2
  go_ret
  exact ⟨ret_u32 (bits_or_comm _ _), rfl⟩
theorem rot_17 (x : Int) (w : World) (h0 : 0 ≤ x) (h1 : x < 4294967296) : Calls Tryz.prog 154 #[.int .u32 x, .int .i64 17] w fun e w' => e = .returned (.int .u32 (rr 131072 32768 x)) ∧ w = w' := by
  go_enter Tryz.func154, Tryz.ntmps154
  go_wp2_with fail
  refine (rotl_17 x w h0 h1).mono ?_
  rintro e w' ⟨rfl, rfl⟩
  go_wp2
  go_ret
  exact ⟨rfl, rfl⟩
theorem rrot_17 (x : Int) (w : World) (h0 : 0 ≤ x) (h1 : x < 4294967296) : Calls Tryz.prog 182 #[.int .u32 x, .int .i64 17] w fun e w' => e = .returned (.int .u32 (rr 131072 32768 x)) ∧ ∃ q, w' = w.drewN q := by
  go_enter Tryz.func182, Tryz.ntmps182
  go_wp2
  go_quiet (fail)
  go_wp2
  go_ret
  exact ⟨rfl, _, rfl⟩
theorem rotl_18 (x : Int) (w : World) (h0 : 0 ≤ x) (h1 : x < 4294967296) : Calls Tryz.prog 175 #[.int .u32 x, .int .i64 (-18)] w fun e w' => e = .returned (.int .u32 (rr 262144 16384 x)) ∧ w = w' := by
  have hb : bits BinOp.and IntKind.u64 (IntKind.u64.wrap (-18)) 31 = 14 := by decide +kernel
  go_enter Tryz.func175, Tryz.ntmps175
  go_wp2
  go_ret
  exact ⟨ret_u32 (bits_or_comm _ _), rfl⟩
theorem rot_18 (x : Int) (w : World) (h0 : 0 ≤ x) (h1 : x < 4294967296) : Calls Tryz.prog 154 #[.int .u32 x, .int .i64 18] w fun e w' => e = .returned (.int .u32 (rr 262144 16384 x)) ∧ w = w' := by
  go_enter Tryz.func154, Tryz.ntmps154
  go_wp2_with fail
  refine (rotl_18 x w h0 h1).mono ?_
  rintro e w' ⟨rfl, rfl⟩
  go_wp2
  go_ret
  exact ⟨rfl, rfl⟩
theorem rrot_18 (x : Int) (w : World) (h0 : 0 ≤ x) (h1 : x < 4294967296) : Calls Tryz.prog 182 #[.int .u32 x, .int .i64 18] w fun e w' => e = .returned (.int .u32 (rr 262144 16384 x)) ∧ ∃ q, w' = w.drewN q := by
  go_enter Tryz.func182, Tryz.ntmps182
  go_wp2
  go_quiet (fail)
  go_wp2
  go_ret
  exact ⟨rfl, _, rfl⟩
theorem rotl_19 (x : Int) (w : World) (h0 : 0 ≤ x) (h1 : x < 4294967296) : Calls Tryz.prog 175 #[.int .u32 x, .int .i64 (-19)] w fun e w' => e = .returned (.int .u32 (rr 524288 8192 x)) ∧ w = w' := by
  have hb : bits BinOp.and IntKind.u64 (IntKind.u64.wrap (-19)) 31 = 13 := by decide +kernel
  go_enter Tryz.func175, Tryz.ntmps175
  go_wp2
  go_ret
  exact ⟨ret_u32 (bits_or_comm _ _), rfl⟩
theorem rot_19 (x : Int) (w : World) (h0 : 0 ≤ x) (h1 : x < 4294967296) : Calls Tryz.prog 154 #[.int .u32 x, .int .i64 19] w fun e w' => e = .returned (.int .u32 (rr 524288 8192 x)) ∧ w = w' := by
  go_enter Tryz.func154, Tryz.ntmps154
  go_wp2_with fail
  refine (rotl_19 x w h0 h1).mono ?_
  rintro e w' ⟨rfl, rfl⟩
  go_wp2
  go_ret
  exact ⟨rfl, rfl⟩
theorem rrot_19 (x : Int) (w : World) (h0 : 0 ≤ x) (h1 : x < 4294967296) : Calls Tryz.prog 182 #[.int .u32 x, .int .i64 19] w fun e w' => e = .returned (.int .u32 (rr 524288 8192 x)) ∧ ∃ q, w' = w.drewN q := by
  go_enter Tryz.func182, Tryz.ntmps182
  go_wp2
  go_quiet (fail)
  go_wp2
  go_ret
  exact ⟨rfl, _, rfl⟩
theorem rotl_22 (x : Int) (w : World) (h0 : 0 ≤ x) (h1 : x < 4294967296) : Calls Tryz.prog 175 #[.int .u32 x, .int .i64 (-22)] w fun e w' => e = .returned (.int .u32 (rr 4194304 1024 x)) ∧ w = w' := by
  have hb : bits BinOp.and IntKind.u64 (IntKind.u64.wrap (-22)) 31 = 10 := by decide +kernel
  go_enter Tryz.func175, Tryz.ntmps175
  go_wp2
  go_ret
  exact ⟨ret_u32 (bits_or_comm _ _), rfl⟩
theorem rot_22 (x : Int) (w : World) (h0 : 0 ≤ x) (h1 : x < 4294967296) : Calls Tryz.prog 154 #[.int .u32 x, .int .i64 22] w fun e w' => e = .returned (.int .u32 (rr 4194304 1024 x)) ∧ w = w' := by
  go_enter Tryz.func154, Tryz.ntmps154
  go_wp2_with fail
  refine (rotl_22 x w h0 h1).mono ?_
  rintro e w' ⟨rfl, rfl⟩
  go_wp2
  go_ret
  exact ⟨rfl, rfl⟩
theorem rrot_22 (x : Int) (w : World) (h0 : 0 ≤ x) (h1 : x < 4294967296) : Calls Tryz.prog 182 #[.int .u32 x, .int .i64 22] w fun e w' => e = .returned (.int .u32 (rr 4194304 1024 x)) ∧ ∃ q, w' = w.drewN q := by
  go_enter Tryz.func182, Tryz.ntmps182
  go_wp2
  go_quiet (fail)
  go_wp2
  go_ret
  exact ⟨rfl, _, rfl⟩
theorem rotl_25 (x : Int) (w : World) (h0 : 0 ≤ x) (h1 : x < 4294967296) : Calls Tryz.prog 175 #[.int .u32 x, .int .i64 (-25)] w fun e w' => e = .returned (.int .u32 (rr 33554432 128 x)) ∧ w = w' := by
  have hb : bits BinOp.and IntKind.u64 (IntKind.u64.wrap (-25)) 31 = 7 := by decide +kernel
  go_enter Tryz.func175, Tryz.ntmps175
  go_wp2
  go_ret
  exact ⟨ret_u32 (bits_or_comm _ _), rfl⟩
theorem rot_25 (x : Int) (w : World) (h0 : 0 ≤ x) (h1 : x < 4294967296) : Calls Tryz.prog 154 #[.int .u32 x, .int .i64 25] w fun e w' => e = .returned (.int .u32 (rr 33554432 128 x)) ∧ w = w' := by
  go_enter Tryz.func154, Tryz.ntmps154
  go_wp2_with fail
  refine (rotl_25 x w h0 h1).mono ?_
  rintro e w' ⟨rfl, rfl⟩
  go_wp2
  go_ret
  exact ⟨rfl, rfl⟩
theorem rrot_25 (x : Int) (w : World) (h0 : 0 ≤ x) (h1 : x < 4294967296) : Calls Tryz.prog 182 #[.int .u32 x, .int .i64 25] w fun e w' => e = .returned (.int .u32 (rr 33554432 128 x)) ∧ ∃ q, w' = w.drewN q := by
  go_enter Tryz.func182, Tryz.ntmps182
  go_wp2
  go_quiet (fail)
  go_wp2
  go_ret
  exact ⟨rfl, _, rfl⟩
def sm0 (x : Int) : Int := X (X (rr 128 33554432 x) (rr 262144 16384 x)) (x / 8)
def sm1 (x : Int) : Int := X (X (rr 131072 32768 x) (rr 524288 8192 x)) (x / 1024)
def la0 (x : Int) : Int := X (X (rr 4 1073741824 x) (rr 8192 524288 x)) (rr 4194304 1024 x)
def la1 (x : Int) : Int := X (X (rr 64 67108864 x) (rr 2048 2097152 x)) (rr 33554432 128 x)
theorem sm0_any (x : Int) (w : World) (h0 : 0 ≤ x) (h1 : x < 4294967296) : Calls Tryz.prog 166 #[.int .u32 x] w fun e w' => e = .returned (.int .u32 (sm0 x)) ∧ ∃ q, w' = w.drewN q := by
  go_enter Tryz.func166, Tryz.ntmps166
  go_wp2_with fail
  refine (rrot_7 x _ h0 h1).mono ?_
  rintro e w0 ⟨rfl, q0, rfl⟩
  go_wp2_with fail
  refine (rrot_18 x _ h0 h1).mono ?_
  rintro e w1 ⟨rfl, q1, rfl⟩
  go_wp2_with fail
  go_ret
  exact ⟨rfl, _, rfl⟩
theorem sm1_any (x : Int) (w : World) (h0 : 0 ≤ x) (h1 : x < 4294967296) : Calls Tryz.prog 165 #[.int .u32 x] w fun e w' => e = .returned (.int .u32 (sm1 x)) ∧ ∃ q, w' = w.drewN q := by
  go_enter Tryz.func165, Tryz.ntmps165
  go_wp2_with fail
  refine (rrot_17 x _ h0 h1).mono ?_
  rintro e w0 ⟨rfl, q0, rfl⟩
  go_wp2_with fail
  refine (rrot_19 x _ h0 h1).mono ?_
  rintro e w1 ⟨rfl, q1, rfl⟩
  go_wp2_with fail
  go_ret
  exact ⟨rfl, _, rfl⟩
theorem la0_any (x : Int) (w : World) (h0 : 0 ≤ x) (h1 : x < 4294967296) : Calls Tryz.prog 169 #[.int .u32 x] w fun e w' => e = .returned (.int .u32 (la0 x)) ∧ ∃ q, w' = w.drewN q := by
  go_enter Tryz.func169, Tryz.ntmps169
  go_wp2_with fail
  refine (rrot_2 x _ h0 h1).mono ?_
  rintro e w0 ⟨rfl, q0, rfl⟩
  go_wp2_with fail
  refine (rrot_13 x _ h0 h1).mono ?_
  rintro e w1 ⟨rfl, q1, rfl⟩
  go_wp2_with fail
  refine (rrot_22 x _ h0 h1).mono ?_
  rintro e w2 ⟨rfl, q2, rfl⟩
  go_wp2_with fail
  go_ret
  exact ⟨rfl, _, rfl⟩
theorem la1_any (x : Int) (w : World) (h0 : 0 ≤ x) (h1 : x < 4294967296) : Calls Tryz.prog 168 #[.int .u32 x] w fun e w' => e = .returned (.int .u32 (la1 x)) ∧ ∃ q, w' = w.drewN q := by
  go_enter Tryz.func168, Tryz.ntmps168
  go_wp2_with fail
  refine (rrot_6 x _ h0 h1).mono ?_
  rintro e w0 ⟨rfl, q0, rfl⟩
  go_wp2_with fail
  refine (rrot_11 x _ h0 h1).mono ?_
  rintro e w1 ⟨rfl, q1, rfl⟩
  go_wp2_with fail
  refine (rrot_25 x _ h0 h1).mono ?_
  rintro e w2 ⟨rfl, q2, rfl⟩
  go_wp2_with fail
  go_ret
  exact ⟨rfl, _, rfl⟩
def AD (a b : Int) : Int := (a + b) % 4294967296
def AN (a b : Int) : Int := bits .and .u32 a b
def NOT (a : Int) : Int := bits .xor .u32 IntKind.u32.max a
def word (bs : List Int) (i : Nat) : Int := bs.getD (4 * i) 0 * 16777216 + bs.getD (4 * i + 1) 0 * 65536 + bs.getD (4 * i + 2) 0 * 256 + bs.getD (4 * i + 3) 0
def nextW (bs w : List Int) (i : Nat) : Int := if i < 16 then word bs i else AD (AD (AD (sm1 (w.getD (i - 2) 0)) (w.getD (i - 7) 0)) (sm0 (w.getD (i - 15) 0))) (w.getD (i - 16) 0)
def schedTo (bs : List Int) : Nat → List Int
  | 0 => []
  | i + 1 => schedTo bs i ++ [nextW bs (schedTo bs i) i]
structure St where
  a : Int
  b : Int
  c : Int
  d : Int
  e : Int
  f : Int
  g : Int
  h : Int
def tOf (k w : Int) (s : St) : Int := AD (AD (AD (AD s.h (la1 s.e)) (X (AN s.e s.f) (AN (NOT s.e) s.g))) k) w
def uOf (s : St) : Int := AD (la0 s.a) (X (X (AN s.a s.b) (AN s.a s.c)) (AN s.b s.c))
def rnd (k w : Int) (s : St) : St := ⟨AD (tOf k w s) (uOf s), s.a, s.b, s.c, AD s.d (tOf k w s), s.e, s.f, s.g⟩
def roundTo (ks ws : List Int) (s : St) : Nat → St
  | 0 => s
  | i + 1 => rnd (ks.getD i 0) (ws.getD i 0) (roundTo ks ws s i)
def Ks : List Int := [0x428a2f98, 0x71374491, 0xb5c0fbcf, 0xe9b5dba5, 0x3956c25b, 0x59f111f1, 0x923f82a4, 0xab1c5ed5, 0xd807aa98, 0x12835b01, 0x243185be, 0x550c7dc3, 0x72be5d74, 0x80deb1fe, 0x9bdc06a7, 0xc19bf174, 0xe49b69c1, 0xefbe4786, 0x0fc19dc6, 0x240ca1cc, 0x2de92c6f, 0x4a7484aa, 0x5cb0a9dc, 0x76f988da, 0x983e5152, 0xa831c66d, 0xb00327c8, 0xbf597fc7, 0xc6e00bf3, 0xd5a79147, 0x06ca6351, 0x14292967, 0x27b70a85, 0x2e1b2138, 0x4d2c6dfc, 0x53380d13, 0x650a7354, 0x766a0abb, 0x81c2c92e, 0x92722c85, 0xa2bfe8a1, 0xa81a664b, 0xc24b8b70, 0xc76c51a3, 0xd192e819, 0xd6990624, 0xf40e3585, 0x106aa070, 0x19a4c116, 0x1e376c08, 0x2748774c, 0x34b0bcb5, 0x391c0cb3, 0x4ed8aa4a, 0x5b9cca4f, 0x682e6ff3, 0x748f82ee, 0x78a5636f, 0x84c87814, 0x8cc70208, 0x90befffa, 0xa4506ceb, 0xbef9a3f7, 0xc67178f2]
def blockS (s : St) (bs : List Int) : St :=
  let r := roundTo Ks (schedTo bs 64) s 64
  ⟨AD s.a r.a, AD s.b r.b, AD s.c r.c, AD s.d r.d, AD s.e r.e, AD s.f r.f, AD s.g r.g, AD s.h r.h⟩
def H0 : St := ⟨0x6a09e667, 0xbb67ae85, 0x3c6ef372, 0xa54ff53a, 0x510e527f, 0x9b05688c, 0x1f83d9ab, 0x5be0cd19⟩
def U32 (l : List Int) : List Value := l.map (Value.int .u32)
def stV (s : St) : Array Value := #[.int .u32 s.a, .int .u32 s.b, .int .u32 s.c, .int .u32 s.d, .int .u32 s.e, .int .u32 s.f, .int .u32 s.g, .int .u32 s.h]
/-- What holds in the first loop of process. -/
structure P1 (w : World) (s : St) (bs : List Int) (i : Nat) (wr : World) : Prop where
  r2 : Row wr w.heap.size 150 (stV s).toList
  r3 : Row wr (w.heap.size + 1) 152 (U8 bs)
  r4 : Row wr (w.heap.size + 1 + 1) 150 (U32 (List.replicate 8 0))
  r5 : Row wr (w.heap.size + 1 + 1 + 1) 202 (U32 (schedTo bs i ++ List.replicate (64 - i) 0))
  bw : Below w.heap.size w wr
def P1R (w : World) (s : St) (bs : List Int) (v : Value) (wr : World) : Prop := ∃ i : Nat, i ≤ 64 ∧ v = .int .i64 i ∧ P1 w s bs i wr
theorem schedTo_length (bs : List Int) : ∀ i, (schedTo bs i).length = i
  | 0 => rfl
  | i + 1 => by simp [schedTo, schedTo_length bs i]
theorem U32_get {l : List Int} {i : Nat} {x : Int} (h : l[i]? = some x) : (U32 l)[i]? = some (.int .u32 x) := by simp [U32, h]
theorem sched_set (bs : List Int) {i : Nat} (hi : i < 64) (x : Int) (hx : x = nextW bs (schedTo bs i) i) : (U32 (schedTo bs i ++ List.replicate (64 - i) 0)).set i (.int .u32 x) = U32 (schedTo bs (i + 1) ++ List.replicate (64 - (i + 1)) 0) := by
  subst hx
  unfold U32
  rw [← List.map_set, List.set_append_right _ _ (by rw [schedTo_length]; omega), schedTo_length, Nat.sub_self]
  obtain ⟨m, hm⟩ : ∃ m, 64 - i = m + 1 := ⟨63 - i, by omega⟩
  rw [hm, show 64 - (i + 1) = m by omega, List.replicate_succ, List.set_cons_zero, schedTo, List.append_assoc]
  rfl
def Bytes (bs : List Int) : Prop := bs.length = 64 ∧ ∀ x ∈ bs, 0 ≤ x ∧ x < 256
theorem Bytes.at_ {bs : List Int} (h : Bytes bs) {i : Nat} (hi : i < 64) : bs[i]? = some (bs.getD i 0) ∧ 0 ≤ bs.getD i 0 ∧ bs.getD i 0 < 256 := by
  have h1 : bs[i]? = some (bs.getD i 0) := getD_some (by rw [h.1]; exact hi)
  exact ⟨h1, h.2 _ (List.mem_of_getElem? h1)⟩
theorem or_nat {a b : Int} (i m x y : Nat) (hm : m = 2 ^ i) (ha : a = (x * m : Nat)) (hb : b = (y : Nat)) (hy : y < m) (hx : x * m < 4294967296) (hy2 : y < 4294967296) : bits .or .u32 a b = a + b := by
  subst ha hb
  rw [u32_or_nat _ _ hx hy2, nat_join i _ _ (by rw [hm]; exact Nat.mul_mod_left _ _) (by rw [← hm]; exact hy)]
  exact Int.natCast_add _ _
theorem word_or {x0 x1 x2 x3 : Int} (p0 : 0 ≤ x0) (p1 : x0 < 256) (p2 : 0 ≤ x1) (p3 : x1 < 256) (p4 : 0 ≤ x2) (p5 : x2 < 256) (p6 : 0 ≤ x3) (p7 : x3 < 256) :
    bits .or .u32 (bits .or .u32 (bits .or .u32 (x0 * 16777216) (x1 * 65536)) (x2 * 256)) x3 = x0 * 16777216 + x1 * 65536 + x2 * 256 + x3 := by
  obtain ⟨y0, rfl⟩ := Int.eq_ofNat_of_zero_le p0
  obtain ⟨y1, rfl⟩ := Int.eq_ofNat_of_zero_le p2
  obtain ⟨y2, rfl⟩ := Int.eq_ofNat_of_zero_le p4
  obtain ⟨y3, rfl⟩ := Int.eq_ofNat_of_zero_le p6
  rw [or_nat (a := (y0 : Int) * 16777216) (b := (y1 : Int) * 65536) 24 16777216 y0 (y1 * 65536) (by decide) (by omega) (by omega) (by omega) (by omega) (by omega)]
  rw [or_nat (a := (y0 : Int) * 16777216 + (y1 : Int) * 65536) (b := (y2 : Int) * 256) 16 65536 (y0 * 256 + y1) (y2 * 256) (by decide) (by omega) (by omega) (by omega) (by omega) (by omega)]
  rw [or_nat (a := (y0 : Int) * 16777216 + (y1 : Int) * 65536 + (y2 : Int) * 256) (b := (y3 : Int)) 8 256 (y0 * 65536 + y1 * 256 + y2) y3 (by decide) (by omega) (by omega) (by omega) (by omega) (by omega)]
theorem P1.store {w wr : World} {s : St} {bs : List Int} {i : Nat} (hP : P1 w s bs i wr) (hlt : i < 64) {x : Int} (hx : x = nextW bs (schedTo bs i) i) : P1 w s bs (i + 1) (wr.setCell ⟨w.heap.size + 1 + 1 + 1, i, none⟩ (.int .u32 x)) :=
  ⟨hP.r2.setOther (by omega) _, hP.r3.setOther (by omega) _, hP.r4.setOther (by omega) _, by
    have h := hP.r5.set i (.int .u32 x)
    rw [sched_set bs hlt x hx] at h
    exact h, hP.bw.setCell (by simp; omega) _⟩
theorem P1.drew {w wr : World} {s : St} {bs : List Int} {i : Nat} (h : P1 w s bs i wr) : P1 w s bs i wr.drew := ⟨h.r2, h.r3, h.r4, h.r5, h.bw.drew⟩
theorem P1.drewN {w wr : World} {s : St} {bs : List Int} {i : Nat} (h : P1 w s bs i wr) (n : Nat) : P1 w s bs i (wr.drewN n) := ⟨h.r2, h.r3, h.r4, h.r5, ⟨h.bw.os, h.bw.tape, h.bw.output, h.bw.size, h.bw.block⟩⟩
def StR (s : St) : Prop := (0 ≤ s.a ∧ s.a < 4294967296) ∧ (0 ≤ s.b ∧ s.b < 4294967296) ∧ (0 ≤ s.c ∧ s.c < 4294967296) ∧ (0 ≤ s.d ∧ s.d < 4294967296) ∧ (0 ≤ s.e ∧ s.e < 4294967296) ∧ (0 ≤ s.f ∧ s.f < 4294967296) ∧ (0 ≤ s.g ∧ s.g < 4294967296) ∧ (0 ≤ s.h ∧ s.h < 4294967296)
/-- What holds in the second loop of process; B is the block of v. -/
structure P2 (w : World) (B : Nat) (s : St) (bs : List Int) (i : Nat) (wr : World) : Prop where
  r2 : Row wr w.heap.size 150 (stV s).toList
  r4 : Row wr (w.heap.size + 1 + 1) 150 (U32 (List.replicate 8 0))
  r5 : Row wr (w.heap.size + 1 + 1 + 1) 202 (U32 (schedTo bs 64))
  rv : Row wr B 150 (stV (roundTo Ks (schedTo bs 64) s i)).toList
  bw : Below w.heap.size w wr
  lo : w.heap.size + 1 + 1 + 1 < B
def P2R (w : World) (B : Nat) (s : St) (bs : List Int) (v : Value) (wr : World) : Prop := ∃ i : Nat, i ≤ 64 ∧ v = .int .i64 i ∧ P2 w B s bs i wr
theorem P1.two {w wr : World} {s : St} {bs : List Int} (h : P1 w s bs 64 wr) : P2 w wr.heap.size s bs 0 (wr.alloc (.cells (stV s) 150)) :=
  ⟨h.r2.alloc _, h.r4.alloc _, by have h5 := h.r5.alloc (.cells (stV s) 150); simpa using h5, Row.new wr 150 (stV s).toList, h.bw.alloc h.bw.size _, h.r5.lt⟩
theorem P2.store {w wr : World} {B : Nat} {s : St} {bs : List Int} {i : Nat} (h : P2 w B s bs i wr) (r' : St) (hr : roundTo Ks (schedTo bs 64) s (i + 1) = r') : P2 w B s bs (i + 1) ((((((((wr.setCell ⟨B, 0, none⟩ (.int .u32 r'.a)).setCell ⟨B, 1, none⟩ (.int .u32 r'.b)).setCell ⟨B, 2, none⟩ (.int .u32 r'.c)).setCell ⟨B, 3, none⟩ (.int .u32 r'.d)).setCell ⟨B, 4, none⟩ (.int .u32 r'.e)).setCell ⟨B, 5, none⟩ (.int .u32 r'.f)).setCell ⟨B, 6, none⟩ (.int .u32 r'.g)).setCell ⟨B, 7, none⟩ (.int .u32 r'.h)) := by
  have hlo := h.lo
  refine ⟨((((((((h.r2.setOther (by omega) _).setOther (by omega) _).setOther (by omega) _).setOther (by omega) _).setOther (by omega) _).setOther (by omega) _).setOther (by omega) _).setOther (by omega) _), ((((((((h.r4.setOther (by omega) _).setOther (by omega) _).setOther (by omega) _).setOther (by omega) _).setOther (by omega) _).setOther (by omega) _).setOther (by omega) _).setOther (by omega) _), ((((((((h.r5.setOther (by omega) _).setOther (by omega) _).setOther (by omega) _).setOther (by omega) _).setOther (by omega) _).setOther (by omega) _).setOther (by omega) _).setOther (by omega) _), ?_, ((((((((h.bw.setCell (p := ⟨B, 0, none⟩) (by have := h.lo; simp; omega) _).setCell (p := ⟨B, 1, none⟩) (by have := h.lo; simp; omega) _).setCell (p := ⟨B, 2, none⟩) (by have := h.lo; simp; omega) _).setCell (p := ⟨B, 3, none⟩) (by have := h.lo; simp; omega) _).setCell (p := ⟨B, 4, none⟩) (by have := h.lo; simp; omega) _).setCell (p := ⟨B, 5, none⟩) (by have := h.lo; simp; omega) _).setCell (p := ⟨B, 6, none⟩) (by have := h.lo; simp; omega) _).setCell (p := ⟨B, 7, none⟩) (by have := h.lo; simp; omega) _), hlo⟩
  rw [hr]
  exact ((((((((h.rv.set 0 (.int .u32 r'.a)).set 1 (.int .u32 r'.b)).set 2 (.int .u32 r'.c)).set 3 (.int .u32 r'.d)).set 4 (.int .u32 r'.e)).set 5 (.int .u32 r'.f)).set 6 (.int .u32 r'.g)).set 7 (.int .u32 r'.h))
theorem P2.drewN {w wr : World} {B : Nat} {s : St} {bs : List Int} {i : Nat} (h : P2 w B s bs i wr) (n : Nat) : P2 w B s bs i (wr.drewN n) := ⟨h.r2, h.r4, h.r5, h.rv, ⟨h.bw.os, h.bw.tape, h.bw.output, h.bw.size, h.bw.block⟩, h.lo⟩
/-- The slot holds this word, and the world has but drawn. -/
def Is (x : Int) (W : World) (v : Value) (wx : World) : Prop := v = .int .u32 x ∧ ∃ n, W.drewN n = wx
theorem t_flat (k w : Int) (s : St) : tOf k w s = (s.h + la1 s.e + bits .xor .u32 (bits .and .u32 s.e s.f) (bits .and .u32 (bits .xor .u32 IntKind.u32.max s.e) s.g) + k + w) % 4294967296 := by
  unfold tOf AD X AN NOT
  generalize bits .xor .u32 (bits .and .u32 s.e s.f) (bits .and .u32 (bits .xor .u32 IntKind.u32.max s.e) s.g) = x
  omega
theorem P2.stores {w wr : World} {B : Nat} {s : St} {bs : List Int} {i : Nat} (h : P2 w B s bs i wr) (r' : St) (hr : roundTo Ks (schedTo bs 64) s (i + 1) = r') : P2 w B s bs (i + 1) (wr.setCells B 0 (stV r').toList) := h.store r' hr
theorem info28 : (Tryz.prog.info? 150).map (·.size) = some 8 := by kernel_rfl
theorem info28b : ∃ a, Tryz.prog.info? 150 = some a ∧ a.size = 8 := by
  have h := info28
  rw [Option.map_eq_some_iff] at h
  exact h
theorem AD_range (a b : Int) : 0 ≤ AD a b ∧ AD a b < 4294967296 := by unfold AD; omega
theorem word_range {bs : List Int} (h : Bytes bs) {i : Nat} (hi : i < 16) : 0 ≤ word bs i ∧ word bs i < 4294967296 := by
  obtain ⟨_, p0, p1⟩ := h.at_ (i := 4 * i) (by omega)
  obtain ⟨_, p2, p3⟩ := h.at_ (i := 4 * i + 1) (by omega)
  obtain ⟨_, p4, p5⟩ := h.at_ (i := 4 * i + 2) (by omega)
  obtain ⟨_, p6, p7⟩ := h.at_ (i := 4 * i + 3) (by omega)
  unfold word; omega
theorem nextW_range {bs : List Int} (h : Bytes bs) (w : List Int) (i : Nat) : 0 ≤ nextW bs w i ∧ nextW bs w i < 4294967296 := by
  unfold nextW
  split
  · exact word_range h ‹_›
  · exact AD_range _ _
theorem sched_range {bs : List Int} (h : Bytes bs) : ∀ i, ∀ x ∈ schedTo bs i, 0 ≤ x ∧ x < 4294967296
  | 0, x, hx => by simp [schedTo] at hx
  | i + 1, x, hx => by
    rw [schedTo] at hx
    rcases List.mem_append.1 hx with h1 | h1
    · exact sched_range h i x h1
    · obtain rfl : x = nextW bs (schedTo bs i) i := by simpa using h1
      exact nextW_range h _ _
theorem sched_at (bs : List Int) (i m : Nat) {q : Nat} (hq : q < i) (h : Bytes bs) : (schedTo bs i ++ List.replicate m 0)[q]? = some ((schedTo bs i).getD q 0) ∧ 0 ≤ (schedTo bs i).getD q 0 ∧ (schedTo bs i).getD q 0 < 4294967296 := by
  have h1 : (schedTo bs i)[q]? = some ((schedTo bs i).getD q 0) := getD_some (by rw [schedTo_length]; exact hq)
  refine ⟨?_, sched_range h i _ (List.mem_of_getElem? h1)⟩
  rw [List.getElem?_append_left (by rw [schedTo_length]; exact hq)]
  exact h1
theorem U32_one (l : List Int) : (U32 l).toArray.all (·.oneCell') = true := all_oneCell_toArray (fun v hv => by
  obtain ⟨x, _, rfl⟩ := List.mem_map.1 hv; rfl)
def stL (s : St) : List Int := [s.a, s.b, s.c, s.d, s.e, s.f, s.g, s.h]
/-- The first j words added. -/
def mixL (s r : St) (j : Nat) : List Int := (List.zipWith AD (stL s) (stL r)).take j ++ (stL s).drop j
/-- What holds in the third loop of process. -/
structure P3 (w : World) (B : Nat) (s r : St) (j : Nat) (wr : World) : Prop where
  r2 : Row wr w.heap.size 150 (U32 (mixL s r j))
  r4 : Row wr (w.heap.size + 1 + 1) 150 (U32 (List.replicate 8 0))
  rv : Row wr B 150 (U32 (stL r))
  bw : Below w.heap.size w wr
  lo : w.heap.size + 1 + 1 + 1 < B
def P3R (w : World) (B : Nat) (s r : St) (v : Value) (wr : World) : Prop := ∃ j : Nat, j ≤ 8 ∧ v = .int .i64 j ∧ P3 w B s r j wr
theorem P2.three {w wr : World} {B : Nat} {s : St} {bs : List Int} (h : P2 w B s bs 64 wr) : P3 w B s (roundTo Ks (schedTo bs 64) s 64) 0 wr := ⟨h.r2, h.r4, h.rv, h.bw, h.lo⟩
theorem P3.drewN {w wr : World} {B : Nat} {s r : St} {j : Nat} (h : P3 w B s r j wr) (n : Nat) : P3 w B s r j (wr.drewN n) := ⟨h.r2, h.r4, h.rv, ⟨h.bw.os, h.bw.tape, h.bw.output, h.bw.size, h.bw.block⟩, h.lo⟩
theorem P3.drew {w wr : World} {B : Nat} {s r : St} {j : Nat} (h : P3 w B s r j wr) : P3 w B s r j wr.drew := ⟨h.r2, h.r4, h.rv, h.bw.drew, h.lo⟩
theorem mixL_at (s r : St) {j : Nat} (hj : j < 8) : (mixL s r j)[j]? = some ((stL s).getD j 0) ∧ (stL r)[j]? = some ((stL r).getD j 0) ∧ (mixL s r j).set j (AD ((stL s).getD j 0) ((stL r).getD j 0)) = mixL s r (j + 1) := by
  rcases j with _ | _ | _ | _ | _ | _ | _ | _ | j
  all_goals first | exact ⟨rfl, rfl, rfl⟩ | omega
theorem P3.store {w wr : World} {B : Nat} {s r : St} {j : Nat} (h : P3 w B s r j wr) (hj : j < 8) : P3 w B s r (j + 1) (wr.setCell ⟨w.heap.size, j, none⟩ (.int .u32 (AD ((stL s).getD j 0) ((stL r).getD j 0)))) := by
  have hlo := h.lo
  refine ⟨?_, h.r4.setOther (by omega) _, h.rv.setOther (by omega) _, h.bw.setCell (by simp) _, h.lo⟩
  have h1 := h.r2.set j (.int .u32 (AD ((stL s).getD j 0) ((stL r).getD j 0)))
  rwa [show (U32 (mixL s r j)).set j (.int .u32 (AD ((stL s).getD j 0) ((stL r).getD j 0))) = U32 (mixL s r (j + 1)) by
    unfold U32; rw [← List.map_set, (mixL_at s r hj).2.2]] at h1
/-- The package's constants lie where the program laid them. -/
def KC (w : World) : Prop := 1 < w.heap.size ∧ ∀ i, i < 64 → w.cell? ⟨1, i, none⟩ = some (.int .u32 (Ks.getD i 0))
theorem KC.below {w w1 : World} (h : KC w) (hb : Below w.heap.size w w1) : KC w1 := ⟨Nat.lt_of_lt_of_le h.1 hb.size, fun i hi => (hb.cell (p := ⟨1, i, none⟩) h.1).trans (h.2 i hi)⟩
theorem roundTo_range {s : St} (h : StR s) (ws : List Int) : ∀ i, StR (roundTo Ks ws s i)
  | 0 => h
  | i + 1 => by
    have ih := roundTo_range h ws i
    obtain ⟨a, b, c, d, e, f, g, _⟩ := ih
    exact ⟨AD_range _ _, a, b, c, AD_range _ _, e, f, g⟩
end Go.Proofs.YtfhbpgickkibmaaGreatDoor
namespace Go.Proofs.YtfhbpgickkibmaaGreatDoor
open Go.RowKit

set_option maxRecDepth 100000 in
set_option maxHeartbeats 4000000 in
theorem process_any (s : St) (bs : List Int) (w : World) (hb : Bytes bs) (hs : StR s) (hK : KC w) : Calls Tryz.prog 127 #[.agg (stV s), .agg (U8 bs).toArray] w fun e w' => e = .returned (.agg (stV (blockS s bs))) ∧ Below w.heap.size w w' := by
  have HB := Lib.hid hb; have SR := Lib.hid hs; have HK := Lib.hid hK
  clear hb hs hK
  unfold stV
  go_enter Tryz.func127, Tryz.ntmps127
  go_wp2
  go_loopw [22] (fun v wr => P1R w s bs v wr) (fun v _ => 64 - (intOf v).toNat)
  case atStart =>
    refine ⟨0, by omega, rfl, ⟨?_, ?_, ?_, ?_, ?_⟩⟩
    · exact (((Row.new w 150 (stV s).toList).alloc _).alloc _).alloc _
    · have h := Row.new (w.alloc (.cells (stV s) 150)) 152 (U8 bs)
      rw [World.size_alloc] at h
      exact (h.alloc _).alloc _
    · have h := Row.new ((w.alloc (.cells (stV s) 150)).alloc (.cells (U8 bs).toArray 152)) 150 (U32 (List.replicate 8 0))
      rw [World.size_alloc, World.size_alloc] at h
      exact h.alloc _
    · have h := Row.new (((w.alloc (.cells (stV s) 150)).alloc (.cells (U8 bs).toArray 152)).alloc (.cells (U32 (List.replicate 8 0)).toArray 150)) 202 (U32 (List.replicate 64 0))
      rw [World.size_alloc, World.size_alloc, World.size_alloc] at h
      exact h
    · exact ((((Below.refl _ _).alloc (Nat.le_refl _) _).alloc (by simp) _).alloc (by simp; omega) _).alloc (by simp; omega) _
  case round =>
    obtain ⟨i, hi, rfl, hP⟩ := hrel
    by_cases hlt : i < 64
    · have f5 := hP.r5.frozen i
      obtain ⟨y, hy⟩ : ∃ y, (schedTo bs i ++ List.replicate (64 - i) 0)[i]? = some y := ⟨_, getD_some (by simp [schedTo_length]; omega)⟩
      have c5 : wr.cell? ⟨w.heap.size + 1 + 1 + 1, i, none⟩ = some (.int .u32 y) := (hP.r5.cell i).trans (U32_get hy)
      have l5 := hP.r5.lt
      have HP := Lib.hid hP
      by_cases h16 : i < 16
      ·
        -- [[A
        obtain ⟨e0, p0, p1⟩ := HB.out.at_ (i := 4 * i) (by omega)
        obtain ⟨e1, p2, p3⟩ := HB.out.at_ (i := 4 * i + 1) (by omega)
        obtain ⟨e2, p4, p5⟩ := HB.out.at_ (i := 4 * i + 2) (by omega)
        obtain ⟨e3, p6, p7⟩ := HB.out.at_ (i := 4 * i + 3) (by omega)
        have a0 := (hP.r3.cell (4 * i)).trans (U8_get e0)
        have a1 := (hP.r3.cell (4 * i + 1)).trans (U8_get e1)
        have a2 := (hP.r3.cell (4 * i + 2)).trans (U8_get e2)
        have a3 := (hP.r3.cell (4 * i + 3)).trans (U8_get e3)
        have NW := Lib.hid (show nextW bs (schedTo bs i) i = word bs i by rw [nextW, if_pos h16])
        have WD := Lib.hid (show word bs i = bs.getD (4 * i) 0 * 16777216 + bs.getD (4 * i + 1) 0 * 65536 + bs.getD (4 * i + 2) 0 * 256 + bs.getD (4 * i + 3) 0 from rfl)
        generalize bs.getD (4 * i) 0 = x0 at *
        generalize bs.getD (4 * i + 1) 0 = x1 at *
        generalize bs.getD (4 * i + 2) 0 = x2 at *
        generalize bs.getD (4 * i + 3) 0 = x3 at *
        clear e0 e1 e2 e3 hy hP
        have i0 : (0 : Int) ≤ (i : Int) := Int.natCast_nonneg _
        have i1 : (i : Int) < 64 := by omega
        have j0 : (0 : Int) ≤ 4 * (i : Int) := by omega
        have j1 : 4 * (i : Int) < 64 := by omega
        have j2 : (0 : Int) ≤ 4 * (i : Int) + 1 := by omega
        have j3 : 4 * (i : Int) + 1 < 64 := by omega
        have j4 : (0 : Int) ≤ 4 * (i : Int) + 2 := by omega
        have j5 : 4 * (i : Int) + 2 < 64 := by omega
        have j6 : (0 : Int) ≤ 4 * (i : Int) + 3 := by omega
        have j7 : 4 * (i : Int) + 3 < 64 := by omega
        have kk : ∀ z o, (wr.setCell ⟨w.heap.size + 1 + 1 + 1, i, none⟩ z).cell? ⟨w.heap.size + 1, o, none⟩ = wr.cell? ⟨w.heap.size + 1, o, none⟩ := fun z o => World.cell?_setCell_other _ _ _ _ (by intro e; injection e with e1; omega)
        have t0 : (4 * (i : Int)).toNat = 4 * i := by omega
        have t1 : (4 * (i : Int) + 1).toNat = 4 * i + 1 := by omega
        have t2 : (4 * (i : Int) + 2).toNat = 4 * i + 2 := by omega
        have t3 : (4 * (i : Int) + 3).toNat = 4 * i + 3 := by omega
        have v0 : IntKind.i64.wrap (4 * (i : Int)) = 4 * (i : Int) := IntWalk.i64_in _ (by omega)
        have v1 : IntKind.i64.wrap (4 * (i : Int) + 1) = 4 * (i : Int) + 1 := IntWalk.i64_in _ (by omega)
        have v2 : IntKind.i64.wrap (4 * (i : Int) + 2) = 4 * (i : Int) + 2 := IntWalk.i64_in _ (by omega)
        have v3 : IntKind.i64.wrap (4 * (i : Int) + 3) = 4 * (i : Int) + 3 := IntWalk.i64_in _ (by omega)
        have hd : decide ((i : Int) < 64) = true := by simp; omega
        have hd2 : decide ((i : Int) < 16) = true := by simp; omega
        go_wp2_with fail
        go_region_held3 (fun w' => w'.cell? ⟨w.heap.size + 1, 4 * i, none⟩ = some (.int .u8 x0) ∧ w'.cell? ⟨w.heap.size + 1, 4 * i + 1, none⟩ = some (.int .u8 x1) ∧ w'.cell? ⟨w.heap.size + 1, 4 * i + 2, none⟩ = some (.int .u8 x2) ∧ w'.cell? ⟨w.heap.size + 1, 4 * i + 3, none⟩ = some (.int .u8 x3)) (go_keep) (fail)
        clear t0 t1 t2 t3 v0 v1 v2 v3 kk
        go_wp2_with fail
        go_roundw
        case rel => exact ⟨i + 1, by omega, rfl, (HP.out.store hlt (by rw [NW.out, WD.out]; exact word_or p0 p1 p2 p3 p4 p5 p6 p7)).drew⟩
        case measure => simp [intOf]; omega
        -- ]]A
      ·
        -- [[B
        have hw := fun (q : Nat) (hq : q < i) => sched_at bs i (64 - i) hq HB.out
        obtain ⟨e2, p0, p1⟩ := hw (i - 2) (by omega)
        obtain ⟨e7, p2, p3⟩ := hw (i - 7) (by omega)
        obtain ⟨e15, p4, p5⟩ := hw (i - 15) (by omega)
        obtain ⟨e16, p6, p7⟩ := hw (i - 16) (by omega)
        have a2 := (hP.r5.cell (i - 2)).trans (U32_get e2)
        have a7 := (hP.r5.cell (i - 7)).trans (U32_get e7)
        have a15 := (hP.r5.cell (i - 15)).trans (U32_get e15)
        have a16 := (hP.r5.cell (i - 16)).trans (U32_get e16)
        have NW := Lib.hid (show nextW bs (schedTo bs i) i = AD (AD (AD (sm1 ((schedTo bs i).getD (i - 2) 0)) ((schedTo bs i).getD (i - 7) 0)) (sm0 ((schedTo bs i).getD (i - 15) 0))) ((schedTo bs i).getD (i - 16) 0) by
          rw [nextW, if_neg h16])
        generalize (schedTo bs i).getD (i - 2) 0 = x2 at *
        generalize (schedTo bs i).getD (i - 7) 0 = x7 at *
        generalize (schedTo bs i).getD (i - 15) 0 = x15 at *
        generalize (schedTo bs i).getD (i - 16) 0 = x16 at *
        clear e2 e7 e15 e16 hw hy hP
        have i0 : (0 : Int) ≤ (i : Int) := Int.natCast_nonneg _
        have i1 : (i : Int) < 64 := by omega
        have j0 : (0 : Int) ≤ (i : Int) - 2 := by omega
        have j1 : (i : Int) - 2 < 64 := by omega
        have j2 : (0 : Int) ≤ (i : Int) - 7 := by omega
        have j3 : (i : Int) - 7 < 64 := by omega
        have j4 : (0 : Int) ≤ (i : Int) - 15 := by omega
        have j5 : (i : Int) - 15 < 64 := by omega
        have j6 : (0 : Int) ≤ (i : Int) - 16 := by omega
        have j7 : (i : Int) - 16 < 64 := by omega
        have t0 : ((i : Int) - 2).toNat = i - 2 := by omega
        have t1 : ((i : Int) - 7).toNat = i - 7 := by omega
        have t2 : ((i : Int) - 15).toNat = i - 15 := by omega
        have t3 : ((i : Int) - 16).toNat = i - 16 := by omega
        have v0 : IntKind.i64.wrap ((i : Int) - 2) = (i : Int) - 2 := IntWalk.i64_in _ (by omega)
        have v1 : IntKind.i64.wrap ((i : Int) - 7) = (i : Int) - 7 := IntWalk.i64_in _ (by omega)
        have v2 : IntKind.i64.wrap ((i : Int) - 15) = (i : Int) - 15 := IntWalk.i64_in _ (by omega)
        have v3 : IntKind.i64.wrap ((i : Int) - 16) = (i : Int) - 16 := IntWalk.i64_in _ (by omega)
        have hd : decide ((i : Int) < 64) = true := by simp; omega
        have hd2 : decide ((i : Int) < 16) = false := by simp; omega
        go_wp2_with fail
        go_quiet (fail)
        go_wp2_with fail
        refine (rot_17 x2 _ p0 p1).mono ?_
        rintro e w' ⟨rfl, rfl⟩
        go_wp2_with fail
        refine (rot_19 x2 _ p0 p1).mono ?_
        rintro e w' ⟨rfl, rfl⟩
        go_wp2_with fail
        refine (rot_7 x15 _ p4 p5).mono ?_
        rintro e w' ⟨rfl, rfl⟩
        go_wp2_with fail
        refine (rot_18 x15 _ p4 p5).mono ?_
        rintro e w' ⟨rfl, rfl⟩
        go_wp2_with fail
        have kk : ∀ n z o, o ≠ i → ((wr.drewN n).setCell ⟨w.heap.size + 1 + 1 + 1, i, none⟩ z).cell? ⟨w.heap.size + 1 + 1 + 1, o, none⟩ = wr.cell? ⟨w.heap.size + 1 + 1 + 1, o, none⟩ := fun n z o ho => World.cell?_setCell_other _ _ _ _ (by intro e; injection e with e1 e2; omega)
        have k7 := fun n z => (kk n z (i - 7) (by omega)).trans a7
        have k16 := fun n z => (kk n z (i - 16) (by omega)).trans a16
        have l7 : (7 : Int) ≤ (i : Int) := by omega
        have l16 : (16 : Int) ≤ (i : Int) := by omega
        have m7 : (i : Int) < 64 + 7 := by omega
        have m16 : (i : Int) < 64 + 16 := by omega
        have n7 : (i : Int) < 71 := by omega
        have n16 : (i : Int) < 80 := by omega
        clear kk
        go_region_held3 (fun w' => w'.cell? ⟨w.heap.size + 1 + 1 + 1, i - 7, none⟩ = some (.int .u32 x7) ∧ w'.cell? ⟨w.heap.size + 1 + 1 + 1, i - 16, none⟩ = some (.int .u32 x16)) (go_keep) (fail)
        clear t0 t1 t2 t3 v0 v1 v2 v3 k7 k16
        go_wp2_with fail
        go_roundw
        case rel =>
          refine ⟨i + 1, by omega, rfl, (HP.out.drewN _).store hlt ?_⟩
          rw [NW.out]
          rfl
        case measure => simp [intOf]; omega
        -- ]]B
    · obtain rfl : i = 64 := by omega
      rw [show ((64 : Nat) : Int) = (64 : Int) from rfl]
      have HP := Lib.hid hP.two
      have l2 := hP.r2.lt
      have c0 : wr.cell? ⟨w.heap.size, 0, none⟩ = some (.int .u32 s.a) := hP.r2.cell 0
      have c1 : wr.cell? ⟨w.heap.size, 1, none⟩ = some (.int .u32 s.b) := hP.r2.cell 1
      have c2 : wr.cell? ⟨w.heap.size, 2, none⟩ = some (.int .u32 s.c) := hP.r2.cell 2
      have c3 : wr.cell? ⟨w.heap.size, 3, none⟩ = some (.int .u32 s.d) := hP.r2.cell 3
      have c4 : wr.cell? ⟨w.heap.size, 4, none⟩ = some (.int .u32 s.e) := hP.r2.cell 4
      have c5 : wr.cell? ⟨w.heap.size, 5, none⟩ = some (.int .u32 s.f) := hP.r2.cell 5
      have c6 : wr.cell? ⟨w.heap.size, 6, none⟩ = some (.int .u32 s.g) := hP.r2.cell 6
      have c7 : wr.cell? ⟨w.heap.size, 7, none⟩ = some (.int .u32 s.h) := hP.r2.cell 7
      clear hP
      go_wp2_with fail
      clear c0 c1 c2 c3 c4 c5 c6 c7 l2
      obtain ⟨B, hBB⟩ : ∃ B, B = wr.heap.size := ⟨_, rfl⟩
      rw [← hBB] at HP ⊢
      have HBB := Lib.hid hBB
      clear hBB
      go_loopw [99] (fun v wr => P2R w B s bs v wr) (fun v _ => 64 - (intOf v).toNat)
      case atStart => exact ⟨0, by omega, rfl, HP.out⟩
      case round =>
        clear HP HBB
        obtain ⟨i, hi, rfl, hP⟩ := hrel
        by_cases hlt : i < 64
        ·
          -- [[L2
          have hR := roundTo_range (s := s) SR.out (schedTo bs 64) i
          have HP := Lib.hid hP
          have lv := hP.rv.lt
          have l5 := hP.r5.lt
          obtain ⟨e5, p0, p1⟩ := sched_at bs 64 0 hlt HB.out
          rw [List.replicate_zero, List.append_nil] at e5
          have a5 := (hP.r5.cell i).trans (U32_get e5)
          have ak : wr.cell? ⟨1, i, none⟩ = some (.int .u32 (Ks.getD i 0)) := (HK.out.below hP.bw).2 i hlt
          have NX := Lib.hid (show roundTo Ks (schedTo bs 64) s (i + 1) = rnd (Ks.getD i 0) ((schedTo bs 64).getD i 0) (roundTo Ks (schedTo bs 64) s i) from rfl)
          generalize (schedTo bs 64).getD i 0 = wi at *
          generalize Ks.getD i 0 = ki at *
          have hrv := hP.rv
          generalize roundTo Ks (schedTo bs 64) s i = r at *
          have d0 : wr.cell? ⟨B, 0, none⟩ = some (.int .u32 r.a) := hrv.cell 0
          have d1 : wr.cell? ⟨B, 1, none⟩ = some (.int .u32 r.b) := hrv.cell 1
          have d2 : wr.cell? ⟨B, 2, none⟩ = some (.int .u32 r.c) := hrv.cell 2
          have d3 : wr.cell? ⟨B, 3, none⟩ = some (.int .u32 r.d) := hrv.cell 3
          have d4 : wr.cell? ⟨B, 4, none⟩ = some (.int .u32 r.e) := hrv.cell 4
          have d5 : wr.cell? ⟨B, 5, none⟩ = some (.int .u32 r.f) := hrv.cell 5
          have d6 : wr.cell? ⟨B, 6, none⟩ = some (.int .u32 r.g) := hrv.cell 6
          have d7 : wr.cell? ⟨B, 7, none⟩ = some (.int .u32 r.h) := hrv.cell 7
          have f0 := hrv.frozen 0
          have f1 := hrv.frozen 1
          have f2 := hrv.frozen 2
          have f3 := hrv.frozen 3
          have f4 := hrv.frozen 4
          have f5 := hrv.frozen 5
          have f6 := hrv.frozen 6
          have f7 := hrv.frozen 7
          clear hrv hP e5
          have i0 : (0 : Int) ≤ (i : Int) := Int.natCast_nonneg _
          have i1 : (i : Int) < 64 := by omega
          have hd : decide ((i : Int) < 64) = true := by simp; omega
          obtain ⟨⟨ra0, ra1⟩, ⟨rb0, rb1⟩, ⟨rc0, rc1⟩, ⟨rd0, rd1⟩, ⟨re0, re1⟩, ⟨rf0, rf1⟩, ⟨rg0, rg1⟩, ⟨rh0, rh1⟩⟩ := hR
          go_wp2_with fail
          go_quiet (fail)
          go_upto_region 17 with fail
          go_cut [17] (fun v wx => Is (la1 r.e) wr v wx)
          case first =>
            -- [[R17
            go_wp2_with fail
            refine (rot_6 r.e _ re0 re1).mono ?_
            rintro e w' ⟨rfl, rfl⟩
            go_wp2_with fail
            refine (rot_11 r.e _ re0 re1).mono ?_
            rintro e w' ⟨rfl, rfl⟩
            go_wp2_with fail
            refine (rot_25 r.e _ re0 re1).mono ?_
            rintro e w' ⟨rfl, rfl⟩
            go_wp2_with fail
            go_meet
            exact ⟨rfl, _, rfl⟩
            -- ]]R17
          case rest =>
            obtain ⟨rfl, n1, rfl⟩ := hcut
            go_upto_region 18 with fail
            go_cut [18] (fun v wx => Is (la0 r.a) wr v wx)
            case first =>
              -- [[R18
              go_wp2_with fail
              refine (rot_2 r.a _ ra0 ra1).mono ?_
              rintro e w' ⟨rfl, rfl⟩
              go_wp2_with fail
              refine (rot_13 r.a _ ra0 ra1).mono ?_
              rintro e w' ⟨rfl, rfl⟩
              go_wp2_with fail
              refine (rot_22 r.a _ ra0 ra1).mono ?_
              rintro e w' ⟨rfl, rfl⟩
              go_wp2_with fail
              go_meet
              exact ⟨rfl, _, rfl⟩
              -- ]]R18
            case rest =>
              obtain ⟨rfl, n2, rfl⟩ := hcut
              go_upto_region 19 with fail
              go_cut [19] (fun v wx => Is (tOf ki wi r) wr v wx)
              case first =>
                -- [[R19
                go_quiet (fail)
                go_wp2_with fail
                go_meet
                exact ⟨by rw [t_flat], _, rfl⟩
                -- ]]R19
              case rest =>
                obtain ⟨rfl, n3, rfl⟩ := hcut
                go_upto_region 20 with fail
                go_cut [20] (fun v wx => Is (uOf r) wr v wx)
                case first =>
                  -- [[R20
                  go_wp2_with fail
                  go_meet
                  exact ⟨rfl, _, rfl⟩
                  -- ]]R20
                case rest =>
                  obtain ⟨rfl, n4, rfl⟩ := hcut
                  have ND := Lib.hid (show rnd ki wi r = ⟨(tOf ki wi r + uOf r) % 4294967296, r.a, r.b, r.c, (r.d + tOf ki wi r) % 4294967296, r.e, r.f, r.g⟩ from rfl)
                  generalize tOf ki wi r = t at *
                  generalize uOf r = u at *
                  have KEY := Lib.hid (show P2 w B s bs (i + 1) ((wr.drewN n4).setCells B 0 #[Value.int .u32 ((t + u) % 4294967296), .int .u32 r.a, .int .u32 r.b, .int .u32 r.c, .int .u32 ((r.d + t) % 4294967296), .int .u32 r.e, .int .u32 r.f, .int .u32 r.g].toList) from
                    (HP.out.drewN n4).stores ⟨(t + u) % 4294967296, r.a, r.b, r.c, (r.d + t) % 4294967296, r.e, r.f, r.g⟩ (NX.out.trans ND.out))
                  have TH := Lib.hid (fun n => (HP.out.drewN n).rv.there)
                  clear d0 d1 d2 d4 d7 ak a5 f0 f1 f2 f3 f4 f5 f6 f7
                  go_wp2_with (with_reducible refine wpList_store_mid rfl 150 (.tmp 11) (.tmp 177) rfl B 0 _ rfl rfl ?ht ?hi ?h1 ?_)
                  case ht => exact TH.out _
                  case hi => first | exact info28b | exact info28
                  case h1 => simp [Value.oneCell']
                  go_roundw
                  case rel => exact ⟨i + 1, by omega, rfl, KEY.out⟩
                  case measure => simp [intOf]; omega
          -- ]]L2
        · obtain rfl : i = 64 := by omega
          rw [show ((64 : Nat) : Int) = (64 : Int) from rfl]
          have HP := Lib.hid hP
          clear hP
          go_wp2_with fail
          have HP3 := Lib.hid HP.out.three
          clear HP
          have BD := Lib.hid (show blockS s bs = ⟨AD s.a (roundTo Ks (schedTo bs 64) s 64).a, AD s.b (roundTo Ks (schedTo bs 64) s 64).b, AD s.c (roundTo Ks (schedTo bs 64) s 64).c, AD s.d (roundTo Ks (schedTo bs 64) s 64).d, AD s.e (roundTo Ks (schedTo bs 64) s 64).e, AD s.f (roundTo Ks (schedTo bs 64) s 64).f, AD s.g (roundTo Ks (schedTo bs 64) s 64).g, AD s.h (roundTo Ks (schedTo bs 64) s 64).h⟩ from rfl)
          generalize roundTo Ks (schedTo bs 64) s 64 = r at *
          go_loopw [179] (fun v wr => P3R w B s r v wr) (fun v _ => 8 - (intOf v).toNat)
          case atStart => exact ⟨0, by omega, rfl, HP3.out⟩
          case round =>
            clear HP3
            obtain ⟨i, hi, rfl, hP⟩ := hrel
            by_cases hlt : i < 8
            · have HP := Lib.hid hP
              obtain ⟨e0, e1, _⟩ := mixL_at s r hlt
              have a0 := (hP.r2.cell i).trans (U32_get e0)
              have a1 := (hP.rv.cell i).trans (U32_get e1)
              have f0 := hP.r2.frozen i
              have l0 := hP.r2.lt
              have l1 := hP.rv.lt
              have ST := Lib.hid (hP.drew.store hlt)
              clear e0 e1 hP
              generalize (stL s).getD i 0 = x at *
              generalize (stL r).getD i 0 = y at *
              have i0 : (0 : Int) ≤ (i : Int) := Int.natCast_nonneg _
              have i1 : (i : Int) < 8 := by omega
              have hd : decide ((i : Int) < 8) = true := by simp; omega
              go_wp2_with fail
              go_region
              go_wp2_with fail
              go_roundw
              case rel => exact ⟨i + 1, by omega, rfl, ST.out⟩
              case measure => simp [intOf]; omega
            · obtain rfl : i = 8 := by omega
              rw [show ((8 : Nat) : Int) = (8 : Int) from rfl]
              have HP := Lib.hid hP
              clear hP
              have hL : (U32 (mixL s r 8)).length = 8 := rfl
              have HL := Lib.hid hL
              have H2 := Lib.hid HP.out.r2.range
              have H4 := Lib.hid HP.out.r4.there
              have KEY := Lib.hid (show Row (wr.setCells (w.heap.size + 1 + 1) 0 (U32 (mixL s r 8))) (w.heap.size + 1 + 1) 150 (U32 (mixL s r 8)) ∧ Below w.heap.size w (wr.setCells (w.heap.size + 1 + 1) 0 (U32 (mixL s r 8))) from
                ⟨HP.out.r4.setAll _ rfl, below_setCells (by omega) _ _ _ HP.out.bw⟩)
              have RES := Lib.hid (show stV (blockS s bs) = (U32 (mixL s r 8)).toArray by rw [BD.out]; rfl)
              have ONE := Lib.hid (show (U32 (mixL s r 8)).toArray.all (·.oneCell') = true from U32_one _)
              generalize U32 (mixL s r 8) = L at *
              clear hL BD HP
              go_wp2_with (first
                | (with_reducible refine wpList_load_mid rfl 150 (.tmp 2) rfl w.heap.size 0 rfl L _ H2.out Tryz.underlying150 ?ld ?li ?_)
                | (with_reducible refine wpList_store_mid rfl 150 (.tmp 4) (.tmp 191) rfl (w.heap.size + 1 + 1) 0 _ rfl rfl ?ht ?hi ?h1 ?_))
              case ld => rfl
              case li => rw [HL.out]; exact info28
              case ht => rw [show L.toArray.size = 8 from HL.out]; exact H4.out
              case hi => rw [List.size_toArray, HL.out]; exact info28
              case h1 => exact ONE.out
              refine bodyPost_ret (results_cell rfl _ _ _ (w.heap.size + 1 + 1) L _ rfl KEY.out.1.range Tryz.underlying150 rfl (by rw [HL.out]; exact info28)) rfl ⟨?_, KEY.out.2⟩
              rw [← RES.out]
              rfl
end Go.Proofs.YtfhbpgickkibmaaGreatDoor
