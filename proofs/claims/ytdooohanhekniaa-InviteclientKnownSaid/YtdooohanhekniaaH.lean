/- Region 9 of inviteclient.table, the literal of the map, in whatever order its operations are carried out: the map holds the eight rows. -/
import Derived.Test.YtdooohanhekniaaX
namespace Go.Proofs.Ytdooohanhekniaa
open Go.RowKit

def tOps (f : Func) : Array Oper := opsOf f 9

def tA (s wt c ic d : Int) : Nat → World → Value → Prop
  | 0 => aTt
  | 1 => aEx (.agg #[.int .u8 1, .int .u8 5, .int .i64 0, .int .u8 1])
  | 2 => aEx (.int .i64 d)
  | 3 => aEx (.agg #[.int .u8 1, .int .i64 d, .int .i64 0])
  | 4 => aEx (.agg #[.int .u8 1, .int .i64 0, .int .u8 0, .int .i64 0])
  | 5 => aEx (.int .i64 d)
  | 6 => aEx (.agg #[.int .u8 4, .int .i64 0, .int .u8 1, .int .i64 d])
  | 7 => aSl [⟨1, 0, 0, 0⟩, ⟨4, 0, 1, d⟩]
  | 8 => aFn [⟨1, 0, 0, 0⟩, ⟨4, 0, 1, d⟩]
  | 9 => aRow ⟨1, d, 0⟩ [⟨1, 0, 0, 0⟩, ⟨4, 0, 1, d⟩]
  | 10 => aTt
  | 11 => aEx (.agg #[.int .u8 1, .int .u8 5, .int .i64 0, .int .u8 2])
  | 12 => aEx (.agg #[.int .u8 7, .int .i64 0, .int .i64 c])
  | 13 => aEx (.agg #[.int .u8 5, .int .i64 0, .int .u8 0, .int .i64 0])
  | 14 => aEx (.agg #[.int .u8 7, .int .i64 0, .int .u8 0, .int .i64 0])
  | 15 => aSl [⟨5, 0, 0, 0⟩, ⟨7, 0, 0, 0⟩]
  | 16 => aFn [⟨5, 0, 0, 0⟩, ⟨7, 0, 0, 0⟩]
  | 17 => aRow ⟨7, 0, c⟩ [⟨5, 0, 0, 0⟩, ⟨7, 0, 0, 0⟩]
  | 18 => aTt
  | 19 => aEx (.agg #[.int .u8 1, .int .u8 6, .int .i64 0, .int .u8 0])
  | 20 => aEx (.agg #[.int .u8 7, .int .i64 0, .int .i64 c])
  | 21 => aEx (.agg #[.int .u8 6, .int .i64 0, .int .u8 0, .int .i64 0])
  | 22 => aEx (.agg #[.int .u8 7, .int .i64 0, .int .u8 0, .int .i64 0])
  | 23 => aSl [⟨6, 0, 0, 0⟩, ⟨7, 0, 0, 0⟩]
  | 24 => aFn [⟨6, 0, 0, 0⟩, ⟨7, 0, 0, 0⟩]
  | 25 => aRow ⟨7, 0, c⟩ [⟨6, 0, 0, 0⟩, ⟨7, 0, 0, 0⟩]
  | 26 => aTt
  | 27 => aEx (.agg #[.int .u8 4, .int .u8 2, .int .i64 2, .int .u8 0])
  | 28 => aEx (.agg #[.int .u8 s, .int .i64 wt, .int .i64 c])
  | 29 => aEx (.agg #[.int .u8 3, .int .i64 ic, .int .u8 0, .int .i64 0])
  | 30 => aSl [⟨3, ic, 0, 0⟩]
  | 31 => aFn [⟨3, ic, 0, 0⟩]
  | 32 => aRow ⟨s, wt, c⟩ [⟨3, ic, 0, 0⟩]
  | 33 => aTt
  | 34 => aEx (.agg #[.int .u8 4, .int .u8 5, .int .i64 0, .int .u8 13])
  | 35 => aEx (.agg #[.int .u8 7, .int .i64 0, .int .i64 c])
  | 36 => aEx (.agg #[.int .u8 7, .int .i64 0, .int .u8 0, .int .i64 0])
  | 37 => aSl [⟨7, 0, 0, 0⟩]
  | 38 => aFn [⟨7, 0, 0, 0⟩]
  | 39 => aRow ⟨7, 0, c⟩ [⟨7, 0, 0, 0⟩]
  | 40 => aTt
  | 41 => aEx (.agg #[.int .u8 5, .int .u8 2, .int .i64 3, .int .u8 0])
  | 42 => aEx (.agg #[.int .u8 s, .int .i64 wt, .int .i64 c])
  | 43 => aEx (.agg #[.int .u8 2, .int .i64 ic, .int .u8 0, .int .i64 0])
  | 44 => aSl [⟨2, ic, 0, 0⟩]
  | 45 => aFn [⟨2, ic, 0, 0⟩]
  | 46 => aRow ⟨s, wt, c⟩ [⟨2, ic, 0, 0⟩]
  | 47 => aTt
  | 48 => aEx (.agg #[.int .u8 5, .int .u8 5, .int .i64 0, .int .u8 4])
  | 49 => aEx (.agg #[.int .u8 7, .int .i64 0, .int .i64 c])
  | 50 => aEx (.agg #[.int .u8 7, .int .i64 0, .int .u8 0, .int .i64 0])
  | 51 => aSl [⟨7, 0, 0, 0⟩]
  | 52 => aFn [⟨7, 0, 0, 0⟩]
  | 53 => aRow ⟨7, 0, c⟩ [⟨7, 0, 0, 0⟩]
  | 54 => aTt
  | 55 => aEx (.agg #[.int .u8 5, .int .u8 6, .int .i64 0, .int .u8 0])
  | 56 => aEx (.agg #[.int .u8 7, .int .i64 0, .int .i64 c])
  | 57 => aEx (.agg #[.int .u8 6, .int .i64 0, .int .u8 0, .int .i64 0])
  | 58 => aEx (.agg #[.int .u8 7, .int .i64 0, .int .u8 0, .int .i64 0])
  | 59 => aSl [⟨6, 0, 0, 0⟩, ⟨7, 0, 0, 0⟩]
  | 60 => aFn [⟨6, 0, 0, 0⟩, ⟨7, 0, 0, 0⟩]
  | 61 => aRow ⟨7, 0, c⟩ [⟨6, 0, 0, 0⟩, ⟨7, 0, 0, 0⟩]
  | 62 => aTt
  | 63 => aTt
  | 64 => aTt
  | _ => aTt

/-- The rows of the literal, with the number of the operation that inserts each. -/
def tRows (s wt c ic d : Int) : List (Nat × Row) := [(10, ⟨(1, 5, 0, 1), ⟨1, d, 0⟩, [⟨1, 0, 0, 0⟩, ⟨4, 0, 1, d⟩]⟩), (18, ⟨(1, 5, 0, 2), ⟨7, 0, c⟩, [⟨5, 0, 0, 0⟩, ⟨7, 0, 0, 0⟩]⟩), (26, ⟨(1, 6, 0, 0), ⟨7, 0, c⟩, [⟨6, 0, 0, 0⟩, ⟨7, 0, 0, 0⟩]⟩), (33, ⟨(4, 2, 2, 0), ⟨s, wt, c⟩, [⟨3, ic, 0, 0⟩]⟩), (40, ⟨(4, 5, 0, 13), ⟨7, 0, c⟩, [⟨7, 0, 0, 0⟩]⟩), (47, ⟨(5, 2, 3, 0), ⟨s, wt, c⟩, [⟨2, ic, 0, 0⟩]⟩), (54, ⟨(5, 5, 0, 4), ⟨7, 0, c⟩, [⟨7, 0, 0, 0⟩]⟩), (62, ⟨(5, 6, 0, 0), ⟨7, 0, c⟩, [⟨6, 0, 0, 0⟩, ⟨7, 0, 0, 0⟩]⟩)]
def insd (R : List (Nat × Row)) (L : Nat → Bool) : List Row := (R.filter fun p => L p.1).map (·.2)

/-- What holds of the map while the operations are carried out; 'lo': the number of the first block that the call made. -/
structure tG (lo : Nat) (w0 : World) (s wt c ic d : Int) (L : Nat → Bool) (a : Act) (w : World) : Prop where
  kept : Kept w0 w
  below : Below lo w0 w
  no : L 0 = false → insd (tRows s wt c ic d) L = []
  map : L 0 = true → ∃ r, a.tmps.getD 33 undef = .map (some r) ∧ lo ≤ r ∧ TabSet w r (insd (tRows s wt c ic d) L)
  mv : L 63 = true → L 0 = true ∧ a.tmps.getD 88 undef = a.tmps.getD 33 undef
  at13 : L 64 = true → L 0 = true ∧ a.tmps.getD 13 undef = a.tmps.getD 33 undef

theorem tOp0 : ((tOps Try.f31)[0]?).map (fun o => (o.op, o.dst, o.guard)) = some (.makeMap 69 none, some 33, none) := by kernel_rfl
theorem tOp1 : ((tOps Try.f31)[1]?).map (fun o => (o.op, o.dst, o.guard)) = some (.build 72 #[(0, .const (.int .u8 1)), (1, .const (.int .u8 5)), (3, .const (.int .u8 1))], some 34, none) := by kernel_rfl
theorem tOp2 : ((tOps Try.f31)[2]?).map (fun o => (o.op, o.dst, o.guard)) = some (.move (.tmp 5), some 35, none) := by kernel_rfl
theorem tOp3 : ((tOps Try.f31)[3]?).map (fun o => (o.op, o.dst, o.guard)) = some (.build 26 #[(0, .const (.int .u8 1)), (1, .tmp 35)], some 36, none) := by kernel_rfl
theorem tOp4 : ((tOps Try.f31)[4]?).map (fun o => (o.op, o.dst, o.guard)) = some (.load 40 (.tmp 6), some 37, none) := by kernel_rfl
theorem tOp5 : ((tOps Try.f31)[5]?).map (fun o => (o.op, o.dst, o.guard)) = some (.move (.tmp 5), some 38, none) := by kernel_rfl
theorem tOp6 : ((tOps Try.f31)[6]?).map (fun o => (o.op, o.dst, o.guard)) = some (.call { callee := .value (.func 27), args := #[.const (.int .u8 1), .tmp 38], argTypes := #[38, 3] }, some 39, none) := by kernel_rfl
theorem tOp7 : ((tOps Try.f31)[7]?).map (fun o => (o.op, o.dst, o.guard)) = some (.buildSlice 48 2 #[(0, .tmp 37), (1, .tmp 39)], some 40, none) := by kernel_rfl
theorem tOp8 : ((tOps Try.f31)[8]?).map (fun o => (o.op, o.dst, o.guard)) = some (.call { callee := .value (.func 36), args := #[.tmp 40], argTypes := #[48] }, some 41, none) := by kernel_rfl
theorem tOp9 : ((tOps Try.f31)[9]?).map (fun o => (o.op, o.dst, o.guard)) = some (.build 67 #[(0, .tmp 36), (1, .tmp 41)], some 42, none) := by kernel_rfl
theorem tOp10 : ((tOps Try.f31)[10]?).map (fun o => (o.op, o.dst, o.guard)) = some (.insert 69 (.tmp 33) (.tmp 34) (.tmp 42), none, none) := by kernel_rfl
theorem tOp11 : ((tOps Try.f31)[11]?).map (fun o => (o.op, o.dst, o.guard)) = some (.build 72 #[(0, .const (.int .u8 1)), (1, .const (.int .u8 5)), (3, .const (.int .u8 2))], some 43, none) := by kernel_rfl
theorem tOp12 : ((tOps Try.f31)[12]?).map (fun o => (o.op, o.dst, o.guard)) = some (.load 26 (.tmp 12), some 44, none) := by kernel_rfl
theorem tOp13 : ((tOps Try.f31)[13]?).map (fun o => (o.op, o.dst, o.guard)) = some (.load 40 (.tmp 9), some 45, none) := by kernel_rfl
theorem tOp14 : ((tOps Try.f31)[14]?).map (fun o => (o.op, o.dst, o.guard)) = some (.load 40 (.tmp 11), some 46, none) := by kernel_rfl
theorem tOp15 : ((tOps Try.f31)[15]?).map (fun o => (o.op, o.dst, o.guard)) = some (.buildSlice 48 2 #[(0, .tmp 45), (1, .tmp 46)], some 47, none) := by kernel_rfl
theorem tOp16 : ((tOps Try.f31)[16]?).map (fun o => (o.op, o.dst, o.guard)) = some (.call { callee := .value (.func 36), args := #[.tmp 47], argTypes := #[48] }, some 48, none) := by kernel_rfl
theorem tOp17 : ((tOps Try.f31)[17]?).map (fun o => (o.op, o.dst, o.guard)) = some (.build 67 #[(0, .tmp 44), (1, .tmp 48)], some 49, none) := by kernel_rfl
theorem tOp18 : ((tOps Try.f31)[18]?).map (fun o => (o.op, o.dst, o.guard)) = some (.insert 69 (.tmp 33) (.tmp 43) (.tmp 49), none, none) := by kernel_rfl
theorem tOp19 : ((tOps Try.f31)[19]?).map (fun o => (o.op, o.dst, o.guard)) = some (.build 72 #[(0, .const (.int .u8 1)), (1, .const (.int .u8 6))], some 50, none) := by kernel_rfl
theorem tOp20 : ((tOps Try.f31)[20]?).map (fun o => (o.op, o.dst, o.guard)) = some (.load 26 (.tmp 12), some 51, none) := by kernel_rfl
theorem tOp21 : ((tOps Try.f31)[21]?).map (fun o => (o.op, o.dst, o.guard)) = some (.load 40 (.tmp 10), some 52, none) := by kernel_rfl
theorem tOp22 : ((tOps Try.f31)[22]?).map (fun o => (o.op, o.dst, o.guard)) = some (.load 40 (.tmp 11), some 53, none) := by kernel_rfl
theorem tOp23 : ((tOps Try.f31)[23]?).map (fun o => (o.op, o.dst, o.guard)) = some (.buildSlice 48 2 #[(0, .tmp 52), (1, .tmp 53)], some 54, none) := by kernel_rfl
theorem tOp24 : ((tOps Try.f31)[24]?).map (fun o => (o.op, o.dst, o.guard)) = some (.call { callee := .value (.func 36), args := #[.tmp 54], argTypes := #[48] }, some 55, none) := by kernel_rfl
theorem tOp25 : ((tOps Try.f31)[25]?).map (fun o => (o.op, o.dst, o.guard)) = some (.build 67 #[(0, .tmp 51), (1, .tmp 55)], some 56, none) := by kernel_rfl
theorem tOp26 : ((tOps Try.f31)[26]?).map (fun o => (o.op, o.dst, o.guard)) = some (.insert 69 (.tmp 33) (.tmp 50) (.tmp 56), none, none) := by kernel_rfl
theorem tOp27 : ((tOps Try.f31)[27]?).map (fun o => (o.op, o.dst, o.guard)) = some (.build 72 #[(0, .const (.int .u8 4)), (1, .const (.int .u8 2)), (2, .const (.int .i64 2))], some 57, none) := by kernel_rfl
theorem tOp28 : ((tOps Try.f31)[28]?).map (fun o => (o.op, o.dst, o.guard)) = some (.load 26 (.tmp 2), some 58, none) := by kernel_rfl
theorem tOp29 : ((tOps Try.f31)[29]?).map (fun o => (o.op, o.dst, o.guard)) = some (.load 40 (.tmp 7), some 59, none) := by kernel_rfl
theorem tOp30 : ((tOps Try.f31)[30]?).map (fun o => (o.op, o.dst, o.guard)) = some (.buildSlice 48 1 #[(0, .tmp 59)], some 60, none) := by kernel_rfl
theorem tOp31 : ((tOps Try.f31)[31]?).map (fun o => (o.op, o.dst, o.guard)) = some (.call { callee := .value (.func 36), args := #[.tmp 60], argTypes := #[48] }, some 61, none) := by kernel_rfl
theorem tOp32 : ((tOps Try.f31)[32]?).map (fun o => (o.op, o.dst, o.guard)) = some (.build 67 #[(0, .tmp 58), (1, .tmp 61)], some 62, none) := by kernel_rfl
theorem tOp33 : ((tOps Try.f31)[33]?).map (fun o => (o.op, o.dst, o.guard)) = some (.insert 69 (.tmp 33) (.tmp 57) (.tmp 62), none, none) := by kernel_rfl
theorem tOp34 : ((tOps Try.f31)[34]?).map (fun o => (o.op, o.dst, o.guard)) = some (.build 72 #[(0, .const (.int .u8 4)), (1, .const (.int .u8 5)), (3, .const (.int .u8 13))], some 63, none) := by kernel_rfl
theorem tOp35 : ((tOps Try.f31)[35]?).map (fun o => (o.op, o.dst, o.guard)) = some (.load 26 (.tmp 12), some 64, none) := by kernel_rfl
theorem tOp36 : ((tOps Try.f31)[36]?).map (fun o => (o.op, o.dst, o.guard)) = some (.load 40 (.tmp 11), some 65, none) := by kernel_rfl
theorem tOp37 : ((tOps Try.f31)[37]?).map (fun o => (o.op, o.dst, o.guard)) = some (.buildSlice 48 1 #[(0, .tmp 65)], some 66, none) := by kernel_rfl
theorem tOp38 : ((tOps Try.f31)[38]?).map (fun o => (o.op, o.dst, o.guard)) = some (.call { callee := .value (.func 36), args := #[.tmp 66], argTypes := #[48] }, some 67, none) := by kernel_rfl
theorem tOp39 : ((tOps Try.f31)[39]?).map (fun o => (o.op, o.dst, o.guard)) = some (.build 67 #[(0, .tmp 64), (1, .tmp 67)], some 68, none) := by kernel_rfl
theorem tOp40 : ((tOps Try.f31)[40]?).map (fun o => (o.op, o.dst, o.guard)) = some (.insert 69 (.tmp 33) (.tmp 63) (.tmp 68), none, none) := by kernel_rfl
theorem tOp41 : ((tOps Try.f31)[41]?).map (fun o => (o.op, o.dst, o.guard)) = some (.build 72 #[(0, .const (.int .u8 5)), (1, .const (.int .u8 2)), (2, .const (.int .i64 3))], some 69, none) := by kernel_rfl
theorem tOp42 : ((tOps Try.f31)[42]?).map (fun o => (o.op, o.dst, o.guard)) = some (.load 26 (.tmp 2), some 70, none) := by kernel_rfl
theorem tOp43 : ((tOps Try.f31)[43]?).map (fun o => (o.op, o.dst, o.guard)) = some (.load 40 (.tmp 8), some 71, none) := by kernel_rfl
theorem tOp44 : ((tOps Try.f31)[44]?).map (fun o => (o.op, o.dst, o.guard)) = some (.buildSlice 48 1 #[(0, .tmp 71)], some 72, none) := by kernel_rfl
theorem tOp45 : ((tOps Try.f31)[45]?).map (fun o => (o.op, o.dst, o.guard)) = some (.call { callee := .value (.func 36), args := #[.tmp 72], argTypes := #[48] }, some 73, none) := by kernel_rfl
theorem tOp46 : ((tOps Try.f31)[46]?).map (fun o => (o.op, o.dst, o.guard)) = some (.build 67 #[(0, .tmp 70), (1, .tmp 73)], some 74, none) := by kernel_rfl
theorem tOp47 : ((tOps Try.f31)[47]?).map (fun o => (o.op, o.dst, o.guard)) = some (.insert 69 (.tmp 33) (.tmp 69) (.tmp 74), none, none) := by kernel_rfl
theorem tOp48 : ((tOps Try.f31)[48]?).map (fun o => (o.op, o.dst, o.guard)) = some (.build 72 #[(0, .const (.int .u8 5)), (1, .const (.int .u8 5)), (3, .const (.int .u8 4))], some 75, none) := by kernel_rfl
theorem tOp49 : ((tOps Try.f31)[49]?).map (fun o => (o.op, o.dst, o.guard)) = some (.load 26 (.tmp 12), some 76, none) := by kernel_rfl
theorem tOp50 : ((tOps Try.f31)[50]?).map (fun o => (o.op, o.dst, o.guard)) = some (.load 40 (.tmp 11), some 77, none) := by kernel_rfl
theorem tOp51 : ((tOps Try.f31)[51]?).map (fun o => (o.op, o.dst, o.guard)) = some (.buildSlice 48 1 #[(0, .tmp 77)], some 78, none) := by kernel_rfl
theorem tOp52 : ((tOps Try.f31)[52]?).map (fun o => (o.op, o.dst, o.guard)) = some (.call { callee := .value (.func 36), args := #[.tmp 78], argTypes := #[48] }, some 79, none) := by kernel_rfl
theorem tOp53 : ((tOps Try.f31)[53]?).map (fun o => (o.op, o.dst, o.guard)) = some (.build 67 #[(0, .tmp 76), (1, .tmp 79)], some 80, none) := by kernel_rfl
theorem tOp54 : ((tOps Try.f31)[54]?).map (fun o => (o.op, o.dst, o.guard)) = some (.insert 69 (.tmp 33) (.tmp 75) (.tmp 80), none, none) := by kernel_rfl
theorem tOp55 : ((tOps Try.f31)[55]?).map (fun o => (o.op, o.dst, o.guard)) = some (.build 72 #[(0, .const (.int .u8 5)), (1, .const (.int .u8 6))], some 81, none) := by kernel_rfl
theorem tOp56 : ((tOps Try.f31)[56]?).map (fun o => (o.op, o.dst, o.guard)) = some (.load 26 (.tmp 12), some 82, none) := by kernel_rfl
theorem tOp57 : ((tOps Try.f31)[57]?).map (fun o => (o.op, o.dst, o.guard)) = some (.load 40 (.tmp 10), some 83, none) := by kernel_rfl
theorem tOp58 : ((tOps Try.f31)[58]?).map (fun o => (o.op, o.dst, o.guard)) = some (.load 40 (.tmp 11), some 84, none) := by kernel_rfl
theorem tOp59 : ((tOps Try.f31)[59]?).map (fun o => (o.op, o.dst, o.guard)) = some (.buildSlice 48 2 #[(0, .tmp 83), (1, .tmp 84)], some 85, none) := by kernel_rfl
theorem tOp60 : ((tOps Try.f31)[60]?).map (fun o => (o.op, o.dst, o.guard)) = some (.call { callee := .value (.func 36), args := #[.tmp 85], argTypes := #[48] }, some 86, none) := by kernel_rfl
theorem tOp61 : ((tOps Try.f31)[61]?).map (fun o => (o.op, o.dst, o.guard)) = some (.build 67 #[(0, .tmp 82), (1, .tmp 86)], some 87, none) := by kernel_rfl
theorem tOp62 : ((tOps Try.f31)[62]?).map (fun o => (o.op, o.dst, o.guard)) = some (.insert 69 (.tmp 33) (.tmp 81) (.tmp 87), none, none) := by kernel_rfl
theorem tOp63 : ((tOps Try.f31)[63]?).map (fun o => (o.op, o.dst, o.guard)) = some (.move (.tmp 33), some 88, none) := by kernel_rfl
theorem tOp64 : ((tOps Try.f31)[64]?).map (fun o => (o.op, o.dst, o.guard)) = some (.assign (.tmp 88), some 13, none) := by kernel_rfl
def tPairs : List (Nat × Nat) := [(3, 2), (6, 5), (7, 4), (7, 6), (8, 7), (9, 3), (9, 8), (10, 0), (10, 1), (10, 9), (15, 13), (15, 14), (16, 15), (17, 12), (17, 16), (18, 0), (18, 11), (18, 17), (23, 21), (23, 22), (24, 23), (25, 20), (25, 24), (26, 0), (26, 19), (26, 25), (30, 29), (31, 30), (32, 28), (32, 31), (33, 0), (33, 27), (33, 32), (37, 36), (38, 37), (39, 35), (39, 38), (40, 0), (40, 34), (40, 39), (44, 43), (45, 44), (46, 42), (46, 45), (47, 0), (47, 41), (47, 46), (51, 50), (52, 51), (53, 49), (53, 52), (54, 0), (54, 48), (54, 53), (59, 57), (59, 58), (60, 59), (61, 56), (61, 60), (62, 0), (62, 55), (62, 61), (63, 0), (64, 63)]
theorem tDeps : depB (tOps Try.f31) tPairs = true := by kernel_rfl
def tOld : List Tmp := [2, 3, 5, 6, 7, 8, 9, 10, 11, 12]
theorem tFree : tOld.all (freeOf (tOps Try.f31)) = true := by kernel_rfl
theorem tAhead : ahead (tOps Try.f31) = true := by kernel_rfl
theorem tSsa : ssa (tOps Try.f31) 128 = true := by kernel_rfl
theorem tSize : (tOps Try.f31).size = 65 := by kernel_rfl

theorem tStable (s wt c ic d : Int) : ∀ i, Stable (tA s wt c ic d i)
  | 0 => sTt
  | 1 => sEx (.agg #[.int .u8 1, .int .u8 5, .int .i64 0, .int .u8 1])
  | 2 => sEx (.int .i64 d)
  | 3 => sEx (.agg #[.int .u8 1, .int .i64 d, .int .i64 0])
  | 4 => sEx (.agg #[.int .u8 1, .int .i64 0, .int .u8 0, .int .i64 0])
  | 5 => sEx (.int .i64 d)
  | 6 => sEx (.agg #[.int .u8 4, .int .i64 0, .int .u8 1, .int .i64 d])
  | 7 => sSl [⟨1, 0, 0, 0⟩, ⟨4, 0, 1, d⟩]
  | 8 => sFn [⟨1, 0, 0, 0⟩, ⟨4, 0, 1, d⟩]
  | 9 => sRow ⟨1, d, 0⟩ [⟨1, 0, 0, 0⟩, ⟨4, 0, 1, d⟩]
  | 10 => sTt
  | 11 => sEx (.agg #[.int .u8 1, .int .u8 5, .int .i64 0, .int .u8 2])
  | 12 => sEx (.agg #[.int .u8 7, .int .i64 0, .int .i64 c])
  | 13 => sEx (.agg #[.int .u8 5, .int .i64 0, .int .u8 0, .int .i64 0])
  | 14 => sEx (.agg #[.int .u8 7, .int .i64 0, .int .u8 0, .int .i64 0])
  | 15 => sSl [⟨5, 0, 0, 0⟩, ⟨7, 0, 0, 0⟩]
  | 16 => sFn [⟨5, 0, 0, 0⟩, ⟨7, 0, 0, 0⟩]
  | 17 => sRow ⟨7, 0, c⟩ [⟨5, 0, 0, 0⟩, ⟨7, 0, 0, 0⟩]
  | 18 => sTt
  | 19 => sEx (.agg #[.int .u8 1, .int .u8 6, .int .i64 0, .int .u8 0])
  | 20 => sEx (.agg #[.int .u8 7, .int .i64 0, .int .i64 c])
  | 21 => sEx (.agg #[.int .u8 6, .int .i64 0, .int .u8 0, .int .i64 0])
  | 22 => sEx (.agg #[.int .u8 7, .int .i64 0, .int .u8 0, .int .i64 0])
  | 23 => sSl [⟨6, 0, 0, 0⟩, ⟨7, 0, 0, 0⟩]
  | 24 => sFn [⟨6, 0, 0, 0⟩, ⟨7, 0, 0, 0⟩]
  | 25 => sRow ⟨7, 0, c⟩ [⟨6, 0, 0, 0⟩, ⟨7, 0, 0, 0⟩]
  | 26 => sTt
  | 27 => sEx (.agg #[.int .u8 4, .int .u8 2, .int .i64 2, .int .u8 0])
  | 28 => sEx (.agg #[.int .u8 s, .int .i64 wt, .int .i64 c])
  | 29 => sEx (.agg #[.int .u8 3, .int .i64 ic, .int .u8 0, .int .i64 0])
  | 30 => sSl [⟨3, ic, 0, 0⟩]
  | 31 => sFn [⟨3, ic, 0, 0⟩]
  | 32 => sRow ⟨s, wt, c⟩ [⟨3, ic, 0, 0⟩]
  | 33 => sTt
  | 34 => sEx (.agg #[.int .u8 4, .int .u8 5, .int .i64 0, .int .u8 13])
  | 35 => sEx (.agg #[.int .u8 7, .int .i64 0, .int .i64 c])
  | 36 => sEx (.agg #[.int .u8 7, .int .i64 0, .int .u8 0, .int .i64 0])
  | 37 => sSl [⟨7, 0, 0, 0⟩]
  | 38 => sFn [⟨7, 0, 0, 0⟩]
  | 39 => sRow ⟨7, 0, c⟩ [⟨7, 0, 0, 0⟩]
  | 40 => sTt
  | 41 => sEx (.agg #[.int .u8 5, .int .u8 2, .int .i64 3, .int .u8 0])
  | 42 => sEx (.agg #[.int .u8 s, .int .i64 wt, .int .i64 c])
  | 43 => sEx (.agg #[.int .u8 2, .int .i64 ic, .int .u8 0, .int .i64 0])
  | 44 => sSl [⟨2, ic, 0, 0⟩]
  | 45 => sFn [⟨2, ic, 0, 0⟩]
  | 46 => sRow ⟨s, wt, c⟩ [⟨2, ic, 0, 0⟩]
  | 47 => sTt
  | 48 => sEx (.agg #[.int .u8 5, .int .u8 5, .int .i64 0, .int .u8 4])
  | 49 => sEx (.agg #[.int .u8 7, .int .i64 0, .int .i64 c])
  | 50 => sEx (.agg #[.int .u8 7, .int .i64 0, .int .u8 0, .int .i64 0])
  | 51 => sSl [⟨7, 0, 0, 0⟩]
  | 52 => sFn [⟨7, 0, 0, 0⟩]
  | 53 => sRow ⟨7, 0, c⟩ [⟨7, 0, 0, 0⟩]
  | 54 => sTt
  | 55 => sEx (.agg #[.int .u8 5, .int .u8 6, .int .i64 0, .int .u8 0])
  | 56 => sEx (.agg #[.int .u8 7, .int .i64 0, .int .i64 c])
  | 57 => sEx (.agg #[.int .u8 6, .int .i64 0, .int .u8 0, .int .i64 0])
  | 58 => sEx (.agg #[.int .u8 7, .int .i64 0, .int .u8 0, .int .i64 0])
  | 59 => sSl [⟨6, 0, 0, 0⟩, ⟨7, 0, 0, 0⟩]
  | 60 => sFn [⟨6, 0, 0, 0⟩, ⟨7, 0, 0, 0⟩]
  | 61 => sRow ⟨7, 0, c⟩ [⟨6, 0, 0, 0⟩, ⟨7, 0, 0, 0⟩]
  | 62 => sTt
  | 63 => sTt
  | 64 => sTt
  | _ + 65 => sTt

structure TStart (lo : Nat) (s wt c k ic t d : Int) (a0 : Act) (w0 : World) : Prop where
  size : a0.tmps.size = 128
  lo : lo ≤ w0.heap.size
  s5 : a0.tmps[5]?.getD undef = .int .i64 d
  b2 : Bx w0 (a0.tmps[2]?.getD undef) [.int .u8 s, .int .i64 wt, .int .i64 c]
  b3 : Bx w0 (a0.tmps[3]?.getD undef) [.int .u8 k, .int .i64 ic, .int .u8 t]
  b6 : Bx w0 (a0.tmps[6]?.getD undef) [.int .u8 1, .int .i64 0, .int .u8 0, .int .i64 0]
  b7 : Bx w0 (a0.tmps[7]?.getD undef) [.int .u8 3, .int .i64 ic, .int .u8 0, .int .i64 0]
  b8 : Bx w0 (a0.tmps[8]?.getD undef) [.int .u8 2, .int .i64 ic, .int .u8 0, .int .i64 0]
  b9 : Bx w0 (a0.tmps[9]?.getD undef) [.int .u8 5, .int .i64 0, .int .u8 0, .int .i64 0]
  b10 : Bx w0 (a0.tmps[10]?.getD undef) [.int .u8 6, .int .i64 0, .int .u8 0, .int .i64 0]
  b11 : Bx w0 (a0.tmps[11]?.getD undef) [.int .u8 7, .int .i64 0, .int .u8 0, .int .i64 0]
  b12 : Bx w0 (a0.tmps[12]?.getD undef) [.int .u8 7, .int .i64 0, .int .i64 c]

theorem insd_same {R : List (Nat × Row)} {L : Nat → Bool} {i : Nat} (h : R.all (fun p => p.1 != i) = true) : insd R (upd L i) = insd R L := by
  unfold insd
  congr 1
  refine List.filter_congr fun p hp => ?_
  have := List.all_eq_true.1 h p hp
  have hne : (p.1 == i) = false := by simpa using this
  simp [upd, hne]
theorem insd_new {R : List (Nat × Row)} {L : Nat → Bool} {i : Nat} {x : Row} (hx : (i, x) ∈ R) (hu : ∀ p ∈ R, p.1 = i → p.2 = x) : ∀ y, y ∈ x :: insd R L ↔ y ∈ insd R (upd L i) := by
  intro y
  unfold insd
  simp only [List.mem_cons, List.mem_map, List.mem_filter, upd, Bool.or_eq_true, beq_iff_eq]
  constructor
  · rintro (rfl | ⟨p, ⟨hp, hl⟩, rfl⟩)
    · exact ⟨(i, y), ⟨hx, Or.inl rfl⟩, rfl⟩
    · exact ⟨p, ⟨hp, Or.inr hl⟩, rfl⟩
  · rintro ⟨p, ⟨hp, h | h⟩, rfl⟩
    · exact Or.inl (hu p hp h)
    · exact Or.inr ⟨p, ⟨hp, h⟩, rfl⟩

section
variable {lo : Nat} {s wt c k ic t d : Int} {a0 a : Act} {w0 w : World} {L : Nat → Bool} {o : Oper} {Q : Exit → Act → World → Prop}

theorem tSlot (hI : DagI (tOps Try.f31) (tA s wt c ic d) (tG lo w0 s wt c ic d) a0 L a w) {x : Tmp} (hx : x ∈ tOld) : a.tmps[x]?.getD undef = a0.tmps[x]?.getD undef :=
  dagOld hI (List.all_eq_true.1 tFree x hx)

/-- Numbers of operations that neither make the map nor insert nor hand it on. -/
def tPlain (i : Nat) (x : Option Tmp) : Bool := i != 0 && i != 63 && i != 64 && [10, 18, 26, 33, 40, 47, 54, 62].all (· != i) && x != some 33 && x != some 88 && x != some 13

theorem tKeep {w' : World} {i : Nat} {v : Value} (hI : DagI (tOps Try.f31) (tA s wt c ic d) (tG lo w0 s wt c ic d) a0 L a w) (T : TStart lo s wt c k ic t d a0 w0) {x : Option Tmp} (hd : o.dst = x) (hp : tPlain i x = true) (hb : Below w.heap.size w w') (hv : tA s wt c ic d i w' v) :
    StepOk (tA s wt c ic d) (tG lo w0 s wt c ic d) L i o a w (a.put o.dst v) w' := by
  subst hd
  simp only [tPlain, Bool.and_eq_true, bne_iff_ne, ne_eq] at hp
  obtain ⟨⟨⟨⟨⟨⟨p0, p1⟩, p2⟩, p3⟩, p4⟩, p5⟩, p6⟩ := hp
  have g := hI.2.2
  have hk := Kept.of_below hb
  have hlo : lo ≤ w.heap.size := Nat.le_trans T.lo g.below.size
  have hsame : insd (tRows s wt c ic d) (upd L i) = insd (tRows s wt c ic d) L := insd_same (by simpa [tRows] using p3)
  have h0 : ∀ {j : Nat}, j ≠ i → upd L i j = L j := fun h => by simp [upd, h]
  refine ⟨v, rfl, fun j u hu => tStable s wt c ic d j _ _ _ hk hu, fun _ _ => hv, g.kept.trans hk, g.below.trans (hb.mono hlo), fun hl => ?_, fun hl => ?_, fun hl => ?_, fun hl => ?_⟩
  · rw [hsame]; rw [h0 (Ne.symm p0)] at hl; exact g.no hl
  · rw [h0 (Ne.symm p0)] at hl
    obtain ⟨r, e, hr, ht⟩ := g.map hl
    exact ⟨r, by rw [getD_put_other p4]; exact e, hr, by rw [hsame]; exact ht.below hb⟩
  · rw [h0 (Ne.symm p1)] at hl
    rw [getD_put_other p5, getD_put_other p4, h0 (Ne.symm p0)]; exact g.mv hl
  · rw [h0 (Ne.symm p2)] at hl
    rw [getD_put_other p6, getD_put_other p4, h0 (Ne.symm p0)]; exact g.at13 hl

theorem insd_key {R : List (Nat × Row)} {L : Nat → Bool} {i : Nat} {key : Key} (h : R.all (fun p => p.1 == i || p.2.k != key) = true) (hL : L i = false) : ∀ y ∈ insd R L, y.k ≠ key := by
  intro y hy
  simp only [insd, List.mem_map, List.mem_filter] at hy
  obtain ⟨p, ⟨hp, hl⟩, rfl⟩ := hy
  have h1 := List.all_eq_true.1 h p hp
  have hne : (p.1 == i) = false := by
    cases hb : (p.1 == i)
    · rfl
    · have e : p.1 = i := by simpa using hb
      rw [e, hL] at hl; cases hl
  simpa [hne] using h1

theorem tIns {w' : World} {i : Nat} {x : Row} (hI : DagI (tOps Try.f31) (tA s wt c ic d) (tG lo w0 s wt c ic d) a0 L a w) (T : TStart lo s wt c k ic t d a0 w0) (hd : o.dst = none) {r : Nat} (h33 : a.tmps.getD 33 undef = .map (some r)) (hr : lo ≤ r)
    (hx : (i, x) ∈ tRows s wt c ic d) (hu : ∀ p ∈ tRows s wt c ic d, p.1 = i → p.2 = x) (hL0 : L 0 = true) (hi : 0 ≠ i ∧ i ≠ 63 ∧ i ≠ 64) (ht : TabSet w' r (x :: insd (tRows s wt c ic d) L)) (hg : w.grownBy w' (some r)) (hk : Kept w w') :
    StepOk (tA s wt c ic d) (tG lo w0 s wt c ic d) L i o a w (a.put o.dst undef) w' := by
  have g := hI.2.2
  have hlo : lo ≤ w.heap.size := Nat.le_trans T.lo g.below.size
  have h0 : ∀ {j : Nat}, j ≠ i → upd L i j = L j := fun h => by simp [upd, h]
  have hi0 : (0 : Nat) ≠ i := hi.1
  refine ⟨undef, rfl, fun j u hu => tStable s wt c ic d j _ _ _ hk hu, fun d hd' => (by rw [hd] at hd'; cases hd'), g.kept.trans hk, g.below.trans ((Below.refl _ _).grown hg hlo (fun k hk => by injection hk with hk; rw [← hk]; exact hr)), fun hl => ?_, fun hl => ?_, fun hl => ?_, fun hl => ?_⟩
  · rw [h0 hi0, hL0] at hl; cases hl
  · exact ⟨r, by rw [hd]; exact h33, hr, ht.same (insd_new hx hu)⟩
  · rw [h0 (Ne.symm hi.2.1)] at hl
    rw [h0 hi0, hd]; exact g.mv hl
  · rw [h0 (Ne.symm hi.2.2)] at hl
    rw [h0 hi0, hd]; exact g.at13 hl

theorem tS0 (hI : DagI (tOps Try.f31) (tA s wt c ic d) (tG lo w0 s wt c ic d) a0 L a w) (T : TStart lo s wt c k ic t d a0 w0) (ho : (tOps Try.f31)[0]? = some o) (hL : L 0 = false) (hdep : ∀ e ∈ o.after, Region.binds .any e = true → L e.on = true) :
    wpOp Try.prog (tOps Try.f31) Q 0 (StepOk (tA s wt c ic d) (tG lo w0 s wt c ic d) L 0 o a w) a w := by
  obtain ⟨hop, hd, hg⟩ := face_of tOp0 ho
  refine wpOp_face ho hg ?_
  refine wp_value (x_map hop) ?_
  have g := hI.2.2
  have hb : Below w.heap.size w (w.alloc (.map #[] 0)) := (Below.refl _ _).alloc (Nat.le_refl _) _
  have hlo : lo ≤ w.heap.size := Nat.le_trans T.lo g.below.size
  have hsz : 33 < a.tmps.size := by rw [hI.1.1, T.size]; omega
  have hsame : insd (tRows s wt c ic d) (upd L 0) = [] := by rw [insd_same (by simp [tRows])]; exact g.no hL
  refine ⟨_, rfl, fun j u hu => tStable s wt c ic d j _ _ _ (Kept.of_below hb) hu, fun _ _ => trivial, g.kept.trans (Kept.of_below hb), g.below.trans (hb.mono hlo), fun hl => ?_, fun _ => ?_, fun hl => ?_, fun hl => ?_⟩
  · simp [upd] at hl
  · exact ⟨w.heap.size, by rw [hd, getD_put_same hsz], hlo, by rw [hsame]; exact TabSet.new w⟩
  · have h1 : L 63 = true := by simpa [upd] using hl
    rw [(g.mv h1).1] at hL; cases hL
  · have h1 : L 64 = true := by simpa [upd] using hl
    rw [(g.at13 h1).1] at hL; cases hL

theorem tS1 (hI : DagI (tOps Try.f31) (tA s wt c ic d) (tG lo w0 s wt c ic d) a0 L a w) (T : TStart lo s wt c k ic t d a0 w0) (ho : (tOps Try.f31)[1]? = some o) (hL : L 1 = false) (hdep : ∀ e ∈ o.after, Region.binds .any e = true → L e.on = true) :
    wpOp Try.prog (tOps Try.f31) Q 1 (StepOk (tA s wt c ic d) (tG lo w0 s wt c ic d) L 1 o a w) a w := by
  obtain ⟨hop, hd, hg⟩ := face_of tOp1 ho
  refine wpOp_face ho hg ?_
  exact wp_value (w' := w) (by simp [execOp, hop, go_sem]) (tKeep hI T hd (by decide) (Below.refl _ _) rfl)

theorem tS2 (hI : DagI (tOps Try.f31) (tA s wt c ic d) (tG lo w0 s wt c ic d) a0 L a w) (T : TStart lo s wt c k ic t d a0 w0) (ho : (tOps Try.f31)[2]? = some o) (hL : L 2 = false) (hdep : ∀ e ∈ o.after, Region.binds .any e = true → L e.on = true) :
    wpOp Try.prog (tOps Try.f31) Q 2 (StepOk (tA s wt c ic d) (tG lo w0 s wt c ic d) L 2 o a w) a w := by
  obtain ⟨hop, hd, hg⟩ := face_of tOp2 ho
  refine wpOp_face ho hg ?_
  exact wp_value (x_move hop ((tSlot hI (x := 5) (by decide)).trans T.s5)) (tKeep hI T hd (by decide) (Below.refl _ _) rfl)

theorem tS3 (hI : DagI (tOps Try.f31) (tA s wt c ic d) (tG lo w0 s wt c ic d) a0 L a w) (T : TStart lo s wt c k ic t d a0 w0) (ho : (tOps Try.f31)[3]? = some o) (hL : L 3 = false) (hdep : ∀ e ∈ o.after, Region.binds .any e = true → L e.on = true) :
    wpOp Try.prog (tOps Try.f31) Q 3 (StepOk (tA s wt c ic d) (tG lo w0 s wt c ic d) L 3 o a w) a w := by
  obtain ⟨hop, hd, hg⟩ := face_of tOp3 ho
  refine wpOp_face ho hg ?_
  have v35 := dagVal hI tOp2 (depL tDeps (i := 3) (j := 2) (by decide) ho hdep)
  simp only [tA, aEx] at v35
  exact wp_value (w' := w) (by simp [execOp, hop, go_sem, v35]) (tKeep hI T hd (by decide) (Below.refl _ _) rfl)

theorem tS4 (hI : DagI (tOps Try.f31) (tA s wt c ic d) (tG lo w0 s wt c ic d) a0 L a w) (T : TStart lo s wt c k ic t d a0 w0) (ho : (tOps Try.f31)[4]? = some o) (hL : L 4 = false) (hdep : ∀ e ∈ o.after, Region.binds .any e = true → L e.on = true) :
    wpOp Try.prog (tOps Try.f31) Q 4 (StepOk (tA s wt c ic d) (tG lo w0 s wt c ic d) L 4 o a w) a w := by
  obtain ⟨hop, hd, hg⟩ := face_of tOp4 ho
  refine wpOp_face ho hg ?_
  have hb := T.b6.kept hI.2.2.kept
  rw [← tSlot hI (x := 6) (by decide)] at hb
  exact wp_value (x_load40 hop hb) (tKeep hI T hd (by decide) (Below.refl _ _) rfl)

theorem tS5 (hI : DagI (tOps Try.f31) (tA s wt c ic d) (tG lo w0 s wt c ic d) a0 L a w) (T : TStart lo s wt c k ic t d a0 w0) (ho : (tOps Try.f31)[5]? = some o) (hL : L 5 = false) (hdep : ∀ e ∈ o.after, Region.binds .any e = true → L e.on = true) :
    wpOp Try.prog (tOps Try.f31) Q 5 (StepOk (tA s wt c ic d) (tG lo w0 s wt c ic d) L 5 o a w) a w := by
  obtain ⟨hop, hd, hg⟩ := face_of tOp5 ho
  refine wpOp_face ho hg ?_
  exact wp_value (x_move hop ((tSlot hI (x := 5) (by decide)).trans T.s5)) (tKeep hI T hd (by decide) (Below.refl _ _) rfl)

theorem tS6 (hI : DagI (tOps Try.f31) (tA s wt c ic d) (tG lo w0 s wt c ic d) a0 L a w) (T : TStart lo s wt c k ic t d a0 w0) (ho : (tOps Try.f31)[6]? = some o) (hL : L 6 = false) (hdep : ∀ e ∈ o.after, Region.binds .any e = true → L e.on = true) :
    wpOp Try.prog (tOps Try.f31) Q 6 (StepOk (tA s wt c ic d) (tG lo w0 s wt c ic d) L 6 o a w) a w := by
  obtain ⟨hop, hd, hg⟩ := face_of tOp6 ho
  refine wpOp_face ho hg ?_
  have v38 := dagVal hI tOp5 (depL tDeps (i := 6) (j := 5) (by decide) ho hdep)
  simp only [tA, aEx] at v38
  refine wp_enter (x_call27 hop v38) (timer_any _ _ _) ?_
  rintro e w2 ⟨rfl, rfl⟩
  exact ⟨_, rfl, tKeep hI T hd (by decide) ((Below.refl _ _).alloc (Nat.le_refl _) _) rfl⟩

theorem tS7 (hI : DagI (tOps Try.f31) (tA s wt c ic d) (tG lo w0 s wt c ic d) a0 L a w) (T : TStart lo s wt c k ic t d a0 w0) (ho : (tOps Try.f31)[7]? = some o) (hL : L 7 = false) (hdep : ∀ e ∈ o.after, Region.binds .any e = true → L e.on = true) :
    wpOp Try.prog (tOps Try.f31) Q 7 (StepOk (tA s wt c ic d) (tG lo w0 s wt c ic d) L 7 o a w) a w := by
  obtain ⟨hop, hd, hg⟩ := face_of tOp7 ho
  refine wpOp_face ho hg ?_
  have v37 := dagVal hI tOp4 (depL tDeps (i := 7) (j := 4) (by decide) ho hdep)
  simp only [tA, aEx] at v37
  have v39 := dagVal hI tOp6 (depL tDeps (i := 7) (j := 6) (by decide) ho hdep)
  simp only [tA, aEx] at v39
  exact wp_value (x_slice2 hop v37 v39) (tKeep hI T hd (by decide) ((Below.refl _ _).alloc (Nat.le_refl _) _) (Outs.new rfl (Nat.zero_le _) rfl rfl))

theorem tS8 (hI : DagI (tOps Try.f31) (tA s wt c ic d) (tG lo w0 s wt c ic d) a0 L a w) (T : TStart lo s wt c k ic t d a0 w0) (ho : (tOps Try.f31)[8]? = some o) (hL : L 8 = false) (hdep : ∀ e ∈ o.after, Region.binds .any e = true → L e.on = true) :
    wpOp Try.prog (tOps Try.f31) Q 8 (StepOk (tA s wt c ic d) (tG lo w0 s wt c ic d) L 8 o a w) a w := by
  obtain ⟨hop, hd, hg⟩ := face_of tOp8 ho
  refine wpOp_face ho hg ?_
  have v40 := dagVal hI tOp7 (depL tDeps (i := 8) (j := 7) (by decide) ho hdep)
  refine wp_enter (x_call36 hop rfl) (outputs_any _ _ _ v40 (by simp) (by simp)) ?_
  rintro e w2 ⟨f, rfl, hf, hb⟩
  exact ⟨f, rfl, tKeep hI T hd (by decide) hb hf⟩

theorem tS9 (hI : DagI (tOps Try.f31) (tA s wt c ic d) (tG lo w0 s wt c ic d) a0 L a w) (T : TStart lo s wt c k ic t d a0 w0) (ho : (tOps Try.f31)[9]? = some o) (hL : L 9 = false) (hdep : ∀ e ∈ o.after, Region.binds .any e = true → L e.on = true) :
    wpOp Try.prog (tOps Try.f31) Q 9 (StepOk (tA s wt c ic d) (tG lo w0 s wt c ic d) L 9 o a w) a w := by
  obtain ⟨hop, hd, hg⟩ := face_of tOp9 ho
  refine wpOp_face ho hg ?_
  have v36 := dagVal hI tOp3 (depL tDeps (i := 9) (j := 3) (by decide) ho hdep)
  simp only [tA, aEx] at v36
  have v41 := dagVal hI tOp8 (depL tDeps (i := 9) (j := 8) (by decide) ho hdep)
  exact wp_value (x_row (FnOuts.func v41) hop v36 rfl) (tKeep hI T hd (by decide) (Below.refl _ _) ⟨_, rfl, v41⟩)

theorem tS10 (hI : DagI (tOps Try.f31) (tA s wt c ic d) (tG lo w0 s wt c ic d) a0 L a w) (T : TStart lo s wt c k ic t d a0 w0) (ho : (tOps Try.f31)[10]? = some o) (hL : L 10 = false) (hdep : ∀ e ∈ o.after, Region.binds .any e = true → L e.on = true) :
    wpOp Try.prog (tOps Try.f31) Q 10 (StepOk (tA s wt c ic d) (tG lo w0 s wt c ic d) L 10 o a w) a w := by
  obtain ⟨hop, hd, hg⟩ := face_of tOp10 ho
  refine wpOp_face ho hg ?_
  have v34 := dagVal hI tOp1 (depL tDeps (i := 10) (j := 1) (by decide) ho hdep)
  simp only [tA, aEx] at v34
  have v42 := dagVal hI tOp9 (depL tDeps (i := 10) (j := 9) (by decide) ho hdep)
  obtain ⟨f, e, hf⟩ := v42
  have hL0 := depL tDeps (i := 10) (j := 0) (by decide) ho hdep
  obtain ⟨r, h33, hr, ht⟩ := hI.2.2.map hL0
  have hn : ∀ y ∈ insd (tRows s wt c ic d) L, y.k ≠ (1, 5, 0, 1) := insd_key (by simp [tRows]) hL
  obtain ⟨w', hrun, t', g', k'⟩ := ht.insert ⟨(1, 5, 0, 1), ⟨1, d, 0⟩, [⟨1, 0, 0, 0⟩, ⟨4, 0, 1, d⟩]⟩ hn hf
  refine wp_skip (x_insert hop (by rw [← Array.getD_eq_getD_getElem?]; exact h33) v34 e hrun) ?_
  exact tIns hI T hd h33 hr (by simp [tRows]) (by simp [tRows]) hL0 (by decide) t' g' k'

theorem tS11 (hI : DagI (tOps Try.f31) (tA s wt c ic d) (tG lo w0 s wt c ic d) a0 L a w) (T : TStart lo s wt c k ic t d a0 w0) (ho : (tOps Try.f31)[11]? = some o) (hL : L 11 = false) (hdep : ∀ e ∈ o.after, Region.binds .any e = true → L e.on = true) :
    wpOp Try.prog (tOps Try.f31) Q 11 (StepOk (tA s wt c ic d) (tG lo w0 s wt c ic d) L 11 o a w) a w := by
  obtain ⟨hop, hd, hg⟩ := face_of tOp11 ho
  refine wpOp_face ho hg ?_
  exact wp_value (w' := w) (by simp [execOp, hop, go_sem]) (tKeep hI T hd (by decide) (Below.refl _ _) rfl)

theorem tS12 (hI : DagI (tOps Try.f31) (tA s wt c ic d) (tG lo w0 s wt c ic d) a0 L a w) (T : TStart lo s wt c k ic t d a0 w0) (ho : (tOps Try.f31)[12]? = some o) (hL : L 12 = false) (hdep : ∀ e ∈ o.after, Region.binds .any e = true → L e.on = true) :
    wpOp Try.prog (tOps Try.f31) Q 12 (StepOk (tA s wt c ic d) (tG lo w0 s wt c ic d) L 12 o a w) a w := by
  obtain ⟨hop, hd, hg⟩ := face_of tOp12 ho
  refine wpOp_face ho hg ?_
  have hb := T.b12.kept hI.2.2.kept
  rw [← tSlot hI (x := 12) (by decide)] at hb
  exact wp_value (x_load26 hop hb) (tKeep hI T hd (by decide) (Below.refl _ _) rfl)

theorem tS13 (hI : DagI (tOps Try.f31) (tA s wt c ic d) (tG lo w0 s wt c ic d) a0 L a w) (T : TStart lo s wt c k ic t d a0 w0) (ho : (tOps Try.f31)[13]? = some o) (hL : L 13 = false) (hdep : ∀ e ∈ o.after, Region.binds .any e = true → L e.on = true) :
    wpOp Try.prog (tOps Try.f31) Q 13 (StepOk (tA s wt c ic d) (tG lo w0 s wt c ic d) L 13 o a w) a w := by
  obtain ⟨hop, hd, hg⟩ := face_of tOp13 ho
  refine wpOp_face ho hg ?_
  have hb := T.b9.kept hI.2.2.kept
  rw [← tSlot hI (x := 9) (by decide)] at hb
  exact wp_value (x_load40 hop hb) (tKeep hI T hd (by decide) (Below.refl _ _) rfl)

theorem tS14 (hI : DagI (tOps Try.f31) (tA s wt c ic d) (tG lo w0 s wt c ic d) a0 L a w) (T : TStart lo s wt c k ic t d a0 w0) (ho : (tOps Try.f31)[14]? = some o) (hL : L 14 = false) (hdep : ∀ e ∈ o.after, Region.binds .any e = true → L e.on = true) :
    wpOp Try.prog (tOps Try.f31) Q 14 (StepOk (tA s wt c ic d) (tG lo w0 s wt c ic d) L 14 o a w) a w := by
  obtain ⟨hop, hd, hg⟩ := face_of tOp14 ho
  refine wpOp_face ho hg ?_
  have hb := T.b11.kept hI.2.2.kept
  rw [← tSlot hI (x := 11) (by decide)] at hb
  exact wp_value (x_load40 hop hb) (tKeep hI T hd (by decide) (Below.refl _ _) rfl)

theorem tS15 (hI : DagI (tOps Try.f31) (tA s wt c ic d) (tG lo w0 s wt c ic d) a0 L a w) (T : TStart lo s wt c k ic t d a0 w0) (ho : (tOps Try.f31)[15]? = some o) (hL : L 15 = false) (hdep : ∀ e ∈ o.after, Region.binds .any e = true → L e.on = true) :
    wpOp Try.prog (tOps Try.f31) Q 15 (StepOk (tA s wt c ic d) (tG lo w0 s wt c ic d) L 15 o a w) a w := by
  obtain ⟨hop, hd, hg⟩ := face_of tOp15 ho
  refine wpOp_face ho hg ?_
  have v45 := dagVal hI tOp13 (depL tDeps (i := 15) (j := 13) (by decide) ho hdep)
  simp only [tA, aEx] at v45
  have v46 := dagVal hI tOp14 (depL tDeps (i := 15) (j := 14) (by decide) ho hdep)
  simp only [tA, aEx] at v46
  exact wp_value (x_slice2 hop v45 v46) (tKeep hI T hd (by decide) ((Below.refl _ _).alloc (Nat.le_refl _) _) (Outs.new rfl (Nat.zero_le _) rfl rfl))

theorem tS16 (hI : DagI (tOps Try.f31) (tA s wt c ic d) (tG lo w0 s wt c ic d) a0 L a w) (T : TStart lo s wt c k ic t d a0 w0) (ho : (tOps Try.f31)[16]? = some o) (hL : L 16 = false) (hdep : ∀ e ∈ o.after, Region.binds .any e = true → L e.on = true) :
    wpOp Try.prog (tOps Try.f31) Q 16 (StepOk (tA s wt c ic d) (tG lo w0 s wt c ic d) L 16 o a w) a w := by
  obtain ⟨hop, hd, hg⟩ := face_of tOp16 ho
  refine wpOp_face ho hg ?_
  have v47 := dagVal hI tOp15 (depL tDeps (i := 16) (j := 15) (by decide) ho hdep)
  refine wp_enter (x_call36 hop rfl) (outputs_any _ _ _ v47 (by simp) (by simp)) ?_
  rintro e w2 ⟨f, rfl, hf, hb⟩
  exact ⟨f, rfl, tKeep hI T hd (by decide) hb hf⟩

theorem tS17 (hI : DagI (tOps Try.f31) (tA s wt c ic d) (tG lo w0 s wt c ic d) a0 L a w) (T : TStart lo s wt c k ic t d a0 w0) (ho : (tOps Try.f31)[17]? = some o) (hL : L 17 = false) (hdep : ∀ e ∈ o.after, Region.binds .any e = true → L e.on = true) :
    wpOp Try.prog (tOps Try.f31) Q 17 (StepOk (tA s wt c ic d) (tG lo w0 s wt c ic d) L 17 o a w) a w := by
  obtain ⟨hop, hd, hg⟩ := face_of tOp17 ho
  refine wpOp_face ho hg ?_
  have v44 := dagVal hI tOp12 (depL tDeps (i := 17) (j := 12) (by decide) ho hdep)
  simp only [tA, aEx] at v44
  have v48 := dagVal hI tOp16 (depL tDeps (i := 17) (j := 16) (by decide) ho hdep)
  exact wp_value (x_row (FnOuts.func v48) hop v44 rfl) (tKeep hI T hd (by decide) (Below.refl _ _) ⟨_, rfl, v48⟩)

theorem tS18 (hI : DagI (tOps Try.f31) (tA s wt c ic d) (tG lo w0 s wt c ic d) a0 L a w) (T : TStart lo s wt c k ic t d a0 w0) (ho : (tOps Try.f31)[18]? = some o) (hL : L 18 = false) (hdep : ∀ e ∈ o.after, Region.binds .any e = true → L e.on = true) :
    wpOp Try.prog (tOps Try.f31) Q 18 (StepOk (tA s wt c ic d) (tG lo w0 s wt c ic d) L 18 o a w) a w := by
  obtain ⟨hop, hd, hg⟩ := face_of tOp18 ho
  refine wpOp_face ho hg ?_
  have v43 := dagVal hI tOp11 (depL tDeps (i := 18) (j := 11) (by decide) ho hdep)
  simp only [tA, aEx] at v43
  have v49 := dagVal hI tOp17 (depL tDeps (i := 18) (j := 17) (by decide) ho hdep)
  obtain ⟨f, e, hf⟩ := v49
  have hL0 := depL tDeps (i := 18) (j := 0) (by decide) ho hdep
  obtain ⟨r, h33, hr, ht⟩ := hI.2.2.map hL0
  have hn : ∀ y ∈ insd (tRows s wt c ic d) L, y.k ≠ (1, 5, 0, 2) := insd_key (by simp [tRows]) hL
  obtain ⟨w', hrun, t', g', k'⟩ := ht.insert ⟨(1, 5, 0, 2), ⟨7, 0, c⟩, [⟨5, 0, 0, 0⟩, ⟨7, 0, 0, 0⟩]⟩ hn hf
  refine wp_skip (x_insert hop (by rw [← Array.getD_eq_getD_getElem?]; exact h33) v43 e hrun) ?_
  exact tIns hI T hd h33 hr (by simp [tRows]) (by simp [tRows]) hL0 (by decide) t' g' k'

theorem tS19 (hI : DagI (tOps Try.f31) (tA s wt c ic d) (tG lo w0 s wt c ic d) a0 L a w) (T : TStart lo s wt c k ic t d a0 w0) (ho : (tOps Try.f31)[19]? = some o) (hL : L 19 = false) (hdep : ∀ e ∈ o.after, Region.binds .any e = true → L e.on = true) :
    wpOp Try.prog (tOps Try.f31) Q 19 (StepOk (tA s wt c ic d) (tG lo w0 s wt c ic d) L 19 o a w) a w := by
  obtain ⟨hop, hd, hg⟩ := face_of tOp19 ho
  refine wpOp_face ho hg ?_
  exact wp_value (w' := w) (by simp [execOp, hop, go_sem]) (tKeep hI T hd (by decide) (Below.refl _ _) rfl)

theorem tS20 (hI : DagI (tOps Try.f31) (tA s wt c ic d) (tG lo w0 s wt c ic d) a0 L a w) (T : TStart lo s wt c k ic t d a0 w0) (ho : (tOps Try.f31)[20]? = some o) (hL : L 20 = false) (hdep : ∀ e ∈ o.after, Region.binds .any e = true → L e.on = true) :
    wpOp Try.prog (tOps Try.f31) Q 20 (StepOk (tA s wt c ic d) (tG lo w0 s wt c ic d) L 20 o a w) a w := by
  obtain ⟨hop, hd, hg⟩ := face_of tOp20 ho
  refine wpOp_face ho hg ?_
  have hb := T.b12.kept hI.2.2.kept
  rw [← tSlot hI (x := 12) (by decide)] at hb
  exact wp_value (x_load26 hop hb) (tKeep hI T hd (by decide) (Below.refl _ _) rfl)

theorem tS21 (hI : DagI (tOps Try.f31) (tA s wt c ic d) (tG lo w0 s wt c ic d) a0 L a w) (T : TStart lo s wt c k ic t d a0 w0) (ho : (tOps Try.f31)[21]? = some o) (hL : L 21 = false) (hdep : ∀ e ∈ o.after, Region.binds .any e = true → L e.on = true) :
    wpOp Try.prog (tOps Try.f31) Q 21 (StepOk (tA s wt c ic d) (tG lo w0 s wt c ic d) L 21 o a w) a w := by
  obtain ⟨hop, hd, hg⟩ := face_of tOp21 ho
  refine wpOp_face ho hg ?_
  have hb := T.b10.kept hI.2.2.kept
  rw [← tSlot hI (x := 10) (by decide)] at hb
  exact wp_value (x_load40 hop hb) (tKeep hI T hd (by decide) (Below.refl _ _) rfl)

theorem tS22 (hI : DagI (tOps Try.f31) (tA s wt c ic d) (tG lo w0 s wt c ic d) a0 L a w) (T : TStart lo s wt c k ic t d a0 w0) (ho : (tOps Try.f31)[22]? = some o) (hL : L 22 = false) (hdep : ∀ e ∈ o.after, Region.binds .any e = true → L e.on = true) :
    wpOp Try.prog (tOps Try.f31) Q 22 (StepOk (tA s wt c ic d) (tG lo w0 s wt c ic d) L 22 o a w) a w := by
  obtain ⟨hop, hd, hg⟩ := face_of tOp22 ho
  refine wpOp_face ho hg ?_
  have hb := T.b11.kept hI.2.2.kept
  rw [← tSlot hI (x := 11) (by decide)] at hb
  exact wp_value (x_load40 hop hb) (tKeep hI T hd (by decide) (Below.refl _ _) rfl)

theorem tS23 (hI : DagI (tOps Try.f31) (tA s wt c ic d) (tG lo w0 s wt c ic d) a0 L a w) (T : TStart lo s wt c k ic t d a0 w0) (ho : (tOps Try.f31)[23]? = some o) (hL : L 23 = false) (hdep : ∀ e ∈ o.after, Region.binds .any e = true → L e.on = true) :
    wpOp Try.prog (tOps Try.f31) Q 23 (StepOk (tA s wt c ic d) (tG lo w0 s wt c ic d) L 23 o a w) a w := by
  obtain ⟨hop, hd, hg⟩ := face_of tOp23 ho
  refine wpOp_face ho hg ?_
  have v52 := dagVal hI tOp21 (depL tDeps (i := 23) (j := 21) (by decide) ho hdep)
  simp only [tA, aEx] at v52
  have v53 := dagVal hI tOp22 (depL tDeps (i := 23) (j := 22) (by decide) ho hdep)
  simp only [tA, aEx] at v53
  exact wp_value (x_slice2 hop v52 v53) (tKeep hI T hd (by decide) ((Below.refl _ _).alloc (Nat.le_refl _) _) (Outs.new rfl (Nat.zero_le _) rfl rfl))

theorem tS24 (hI : DagI (tOps Try.f31) (tA s wt c ic d) (tG lo w0 s wt c ic d) a0 L a w) (T : TStart lo s wt c k ic t d a0 w0) (ho : (tOps Try.f31)[24]? = some o) (hL : L 24 = false) (hdep : ∀ e ∈ o.after, Region.binds .any e = true → L e.on = true) :
    wpOp Try.prog (tOps Try.f31) Q 24 (StepOk (tA s wt c ic d) (tG lo w0 s wt c ic d) L 24 o a w) a w := by
  obtain ⟨hop, hd, hg⟩ := face_of tOp24 ho
  refine wpOp_face ho hg ?_
  have v54 := dagVal hI tOp23 (depL tDeps (i := 24) (j := 23) (by decide) ho hdep)
  refine wp_enter (x_call36 hop rfl) (outputs_any _ _ _ v54 (by simp) (by simp)) ?_
  rintro e w2 ⟨f, rfl, hf, hb⟩
  exact ⟨f, rfl, tKeep hI T hd (by decide) hb hf⟩

theorem tS25 (hI : DagI (tOps Try.f31) (tA s wt c ic d) (tG lo w0 s wt c ic d) a0 L a w) (T : TStart lo s wt c k ic t d a0 w0) (ho : (tOps Try.f31)[25]? = some o) (hL : L 25 = false) (hdep : ∀ e ∈ o.after, Region.binds .any e = true → L e.on = true) :
    wpOp Try.prog (tOps Try.f31) Q 25 (StepOk (tA s wt c ic d) (tG lo w0 s wt c ic d) L 25 o a w) a w := by
  obtain ⟨hop, hd, hg⟩ := face_of tOp25 ho
  refine wpOp_face ho hg ?_
  have v51 := dagVal hI tOp20 (depL tDeps (i := 25) (j := 20) (by decide) ho hdep)
  simp only [tA, aEx] at v51
  have v55 := dagVal hI tOp24 (depL tDeps (i := 25) (j := 24) (by decide) ho hdep)
  exact wp_value (x_row (FnOuts.func v55) hop v51 rfl) (tKeep hI T hd (by decide) (Below.refl _ _) ⟨_, rfl, v55⟩)

theorem tS26 (hI : DagI (tOps Try.f31) (tA s wt c ic d) (tG lo w0 s wt c ic d) a0 L a w) (T : TStart lo s wt c k ic t d a0 w0) (ho : (tOps Try.f31)[26]? = some o) (hL : L 26 = false) (hdep : ∀ e ∈ o.after, Region.binds .any e = true → L e.on = true) :
    wpOp Try.prog (tOps Try.f31) Q 26 (StepOk (tA s wt c ic d) (tG lo w0 s wt c ic d) L 26 o a w) a w := by
  obtain ⟨hop, hd, hg⟩ := face_of tOp26 ho
  refine wpOp_face ho hg ?_
  have v50 := dagVal hI tOp19 (depL tDeps (i := 26) (j := 19) (by decide) ho hdep)
  simp only [tA, aEx] at v50
  have v56 := dagVal hI tOp25 (depL tDeps (i := 26) (j := 25) (by decide) ho hdep)
  obtain ⟨f, e, hf⟩ := v56
  have hL0 := depL tDeps (i := 26) (j := 0) (by decide) ho hdep
  obtain ⟨r, h33, hr, ht⟩ := hI.2.2.map hL0
  have hn : ∀ y ∈ insd (tRows s wt c ic d) L, y.k ≠ (1, 6, 0, 0) := insd_key (by simp [tRows]) hL
  obtain ⟨w', hrun, t', g', k'⟩ := ht.insert ⟨(1, 6, 0, 0), ⟨7, 0, c⟩, [⟨6, 0, 0, 0⟩, ⟨7, 0, 0, 0⟩]⟩ hn hf
  refine wp_skip (x_insert hop (by rw [← Array.getD_eq_getD_getElem?]; exact h33) v50 e hrun) ?_
  exact tIns hI T hd h33 hr (by simp [tRows]) (by simp [tRows]) hL0 (by decide) t' g' k'

theorem tS27 (hI : DagI (tOps Try.f31) (tA s wt c ic d) (tG lo w0 s wt c ic d) a0 L a w) (T : TStart lo s wt c k ic t d a0 w0) (ho : (tOps Try.f31)[27]? = some o) (hL : L 27 = false) (hdep : ∀ e ∈ o.after, Region.binds .any e = true → L e.on = true) :
    wpOp Try.prog (tOps Try.f31) Q 27 (StepOk (tA s wt c ic d) (tG lo w0 s wt c ic d) L 27 o a w) a w := by
  obtain ⟨hop, hd, hg⟩ := face_of tOp27 ho
  refine wpOp_face ho hg ?_
  exact wp_value (w' := w) (by simp [execOp, hop, go_sem]) (tKeep hI T hd (by decide) (Below.refl _ _) rfl)

theorem tS28 (hI : DagI (tOps Try.f31) (tA s wt c ic d) (tG lo w0 s wt c ic d) a0 L a w) (T : TStart lo s wt c k ic t d a0 w0) (ho : (tOps Try.f31)[28]? = some o) (hL : L 28 = false) (hdep : ∀ e ∈ o.after, Region.binds .any e = true → L e.on = true) :
    wpOp Try.prog (tOps Try.f31) Q 28 (StepOk (tA s wt c ic d) (tG lo w0 s wt c ic d) L 28 o a w) a w := by
  obtain ⟨hop, hd, hg⟩ := face_of tOp28 ho
  refine wpOp_face ho hg ?_
  have hb := T.b2.kept hI.2.2.kept
  rw [← tSlot hI (x := 2) (by decide)] at hb
  exact wp_value (x_load26 hop hb) (tKeep hI T hd (by decide) (Below.refl _ _) rfl)

theorem tS29 (hI : DagI (tOps Try.f31) (tA s wt c ic d) (tG lo w0 s wt c ic d) a0 L a w) (T : TStart lo s wt c k ic t d a0 w0) (ho : (tOps Try.f31)[29]? = some o) (hL : L 29 = false) (hdep : ∀ e ∈ o.after, Region.binds .any e = true → L e.on = true) :
    wpOp Try.prog (tOps Try.f31) Q 29 (StepOk (tA s wt c ic d) (tG lo w0 s wt c ic d) L 29 o a w) a w := by
  obtain ⟨hop, hd, hg⟩ := face_of tOp29 ho
  refine wpOp_face ho hg ?_
  have hb := T.b7.kept hI.2.2.kept
  rw [← tSlot hI (x := 7) (by decide)] at hb
  exact wp_value (x_load40 hop hb) (tKeep hI T hd (by decide) (Below.refl _ _) rfl)

theorem tS30 (hI : DagI (tOps Try.f31) (tA s wt c ic d) (tG lo w0 s wt c ic d) a0 L a w) (T : TStart lo s wt c k ic t d a0 w0) (ho : (tOps Try.f31)[30]? = some o) (hL : L 30 = false) (hdep : ∀ e ∈ o.after, Region.binds .any e = true → L e.on = true) :
    wpOp Try.prog (tOps Try.f31) Q 30 (StepOk (tA s wt c ic d) (tG lo w0 s wt c ic d) L 30 o a w) a w := by
  obtain ⟨hop, hd, hg⟩ := face_of tOp30 ho
  refine wpOp_face ho hg ?_
  have v59 := dagVal hI tOp29 (depL tDeps (i := 30) (j := 29) (by decide) ho hdep)
  simp only [tA, aEx] at v59
  exact wp_value (x_slice1 hop v59) (tKeep hI T hd (by decide) ((Below.refl _ _).alloc (Nat.le_refl _) _) (Outs.new rfl (Nat.zero_le _) rfl rfl))

theorem tS31 (hI : DagI (tOps Try.f31) (tA s wt c ic d) (tG lo w0 s wt c ic d) a0 L a w) (T : TStart lo s wt c k ic t d a0 w0) (ho : (tOps Try.f31)[31]? = some o) (hL : L 31 = false) (hdep : ∀ e ∈ o.after, Region.binds .any e = true → L e.on = true) :
    wpOp Try.prog (tOps Try.f31) Q 31 (StepOk (tA s wt c ic d) (tG lo w0 s wt c ic d) L 31 o a w) a w := by
  obtain ⟨hop, hd, hg⟩ := face_of tOp31 ho
  refine wpOp_face ho hg ?_
  have v60 := dagVal hI tOp30 (depL tDeps (i := 31) (j := 30) (by decide) ho hdep)
  refine wp_enter (x_call36 hop rfl) (outputs_any _ _ _ v60 (by simp) (by simp)) ?_
  rintro e w2 ⟨f, rfl, hf, hb⟩
  exact ⟨f, rfl, tKeep hI T hd (by decide) hb hf⟩

theorem tS32 (hI : DagI (tOps Try.f31) (tA s wt c ic d) (tG lo w0 s wt c ic d) a0 L a w) (T : TStart lo s wt c k ic t d a0 w0) (ho : (tOps Try.f31)[32]? = some o) (hL : L 32 = false) (hdep : ∀ e ∈ o.after, Region.binds .any e = true → L e.on = true) :
    wpOp Try.prog (tOps Try.f31) Q 32 (StepOk (tA s wt c ic d) (tG lo w0 s wt c ic d) L 32 o a w) a w := by
  obtain ⟨hop, hd, hg⟩ := face_of tOp32 ho
  refine wpOp_face ho hg ?_
  have v58 := dagVal hI tOp28 (depL tDeps (i := 32) (j := 28) (by decide) ho hdep)
  simp only [tA, aEx] at v58
  have v61 := dagVal hI tOp31 (depL tDeps (i := 32) (j := 31) (by decide) ho hdep)
  exact wp_value (x_row (FnOuts.func v61) hop v58 rfl) (tKeep hI T hd (by decide) (Below.refl _ _) ⟨_, rfl, v61⟩)

theorem tS33 (hI : DagI (tOps Try.f31) (tA s wt c ic d) (tG lo w0 s wt c ic d) a0 L a w) (T : TStart lo s wt c k ic t d a0 w0) (ho : (tOps Try.f31)[33]? = some o) (hL : L 33 = false) (hdep : ∀ e ∈ o.after, Region.binds .any e = true → L e.on = true) :
    wpOp Try.prog (tOps Try.f31) Q 33 (StepOk (tA s wt c ic d) (tG lo w0 s wt c ic d) L 33 o a w) a w := by
  obtain ⟨hop, hd, hg⟩ := face_of tOp33 ho
  refine wpOp_face ho hg ?_
  have v57 := dagVal hI tOp27 (depL tDeps (i := 33) (j := 27) (by decide) ho hdep)
  simp only [tA, aEx] at v57
  have v62 := dagVal hI tOp32 (depL tDeps (i := 33) (j := 32) (by decide) ho hdep)
  obtain ⟨f, e, hf⟩ := v62
  have hL0 := depL tDeps (i := 33) (j := 0) (by decide) ho hdep
  obtain ⟨r, h33, hr, ht⟩ := hI.2.2.map hL0
  have hn : ∀ y ∈ insd (tRows s wt c ic d) L, y.k ≠ (4, 2, 2, 0) := insd_key (by simp [tRows]) hL
  obtain ⟨w', hrun, t', g', k'⟩ := ht.insert ⟨(4, 2, 2, 0), ⟨s, wt, c⟩, [⟨3, ic, 0, 0⟩]⟩ hn hf
  refine wp_skip (x_insert hop (by rw [← Array.getD_eq_getD_getElem?]; exact h33) v57 e hrun) ?_
  exact tIns hI T hd h33 hr (by simp [tRows]) (by simp [tRows]) hL0 (by decide) t' g' k'

theorem tS34 (hI : DagI (tOps Try.f31) (tA s wt c ic d) (tG lo w0 s wt c ic d) a0 L a w) (T : TStart lo s wt c k ic t d a0 w0) (ho : (tOps Try.f31)[34]? = some o) (hL : L 34 = false) (hdep : ∀ e ∈ o.after, Region.binds .any e = true → L e.on = true) :
    wpOp Try.prog (tOps Try.f31) Q 34 (StepOk (tA s wt c ic d) (tG lo w0 s wt c ic d) L 34 o a w) a w := by
  obtain ⟨hop, hd, hg⟩ := face_of tOp34 ho
  refine wpOp_face ho hg ?_
  exact wp_value (w' := w) (by simp [execOp, hop, go_sem]) (tKeep hI T hd (by decide) (Below.refl _ _) rfl)

theorem tS35 (hI : DagI (tOps Try.f31) (tA s wt c ic d) (tG lo w0 s wt c ic d) a0 L a w) (T : TStart lo s wt c k ic t d a0 w0) (ho : (tOps Try.f31)[35]? = some o) (hL : L 35 = false) (hdep : ∀ e ∈ o.after, Region.binds .any e = true → L e.on = true) :
    wpOp Try.prog (tOps Try.f31) Q 35 (StepOk (tA s wt c ic d) (tG lo w0 s wt c ic d) L 35 o a w) a w := by
  obtain ⟨hop, hd, hg⟩ := face_of tOp35 ho
  refine wpOp_face ho hg ?_
  have hb := T.b12.kept hI.2.2.kept
  rw [← tSlot hI (x := 12) (by decide)] at hb
  exact wp_value (x_load26 hop hb) (tKeep hI T hd (by decide) (Below.refl _ _) rfl)

theorem tS36 (hI : DagI (tOps Try.f31) (tA s wt c ic d) (tG lo w0 s wt c ic d) a0 L a w) (T : TStart lo s wt c k ic t d a0 w0) (ho : (tOps Try.f31)[36]? = some o) (hL : L 36 = false) (hdep : ∀ e ∈ o.after, Region.binds .any e = true → L e.on = true) :
    wpOp Try.prog (tOps Try.f31) Q 36 (StepOk (tA s wt c ic d) (tG lo w0 s wt c ic d) L 36 o a w) a w := by
  obtain ⟨hop, hd, hg⟩ := face_of tOp36 ho
  refine wpOp_face ho hg ?_
  have hb := T.b11.kept hI.2.2.kept
  rw [← tSlot hI (x := 11) (by decide)] at hb
  exact wp_value (x_load40 hop hb) (tKeep hI T hd (by decide) (Below.refl _ _) rfl)

theorem tS37 (hI : DagI (tOps Try.f31) (tA s wt c ic d) (tG lo w0 s wt c ic d) a0 L a w) (T : TStart lo s wt c k ic t d a0 w0) (ho : (tOps Try.f31)[37]? = some o) (hL : L 37 = false) (hdep : ∀ e ∈ o.after, Region.binds .any e = true → L e.on = true) :
    wpOp Try.prog (tOps Try.f31) Q 37 (StepOk (tA s wt c ic d) (tG lo w0 s wt c ic d) L 37 o a w) a w := by
  obtain ⟨hop, hd, hg⟩ := face_of tOp37 ho
  refine wpOp_face ho hg ?_
  have v65 := dagVal hI tOp36 (depL tDeps (i := 37) (j := 36) (by decide) ho hdep)
  simp only [tA, aEx] at v65
  exact wp_value (x_slice1 hop v65) (tKeep hI T hd (by decide) ((Below.refl _ _).alloc (Nat.le_refl _) _) (Outs.new rfl (Nat.zero_le _) rfl rfl))

theorem tS38 (hI : DagI (tOps Try.f31) (tA s wt c ic d) (tG lo w0 s wt c ic d) a0 L a w) (T : TStart lo s wt c k ic t d a0 w0) (ho : (tOps Try.f31)[38]? = some o) (hL : L 38 = false) (hdep : ∀ e ∈ o.after, Region.binds .any e = true → L e.on = true) :
    wpOp Try.prog (tOps Try.f31) Q 38 (StepOk (tA s wt c ic d) (tG lo w0 s wt c ic d) L 38 o a w) a w := by
  obtain ⟨hop, hd, hg⟩ := face_of tOp38 ho
  refine wpOp_face ho hg ?_
  have v66 := dagVal hI tOp37 (depL tDeps (i := 38) (j := 37) (by decide) ho hdep)
  refine wp_enter (x_call36 hop rfl) (outputs_any _ _ _ v66 (by simp) (by simp)) ?_
  rintro e w2 ⟨f, rfl, hf, hb⟩
  exact ⟨f, rfl, tKeep hI T hd (by decide) hb hf⟩

theorem tS39 (hI : DagI (tOps Try.f31) (tA s wt c ic d) (tG lo w0 s wt c ic d) a0 L a w) (T : TStart lo s wt c k ic t d a0 w0) (ho : (tOps Try.f31)[39]? = some o) (hL : L 39 = false) (hdep : ∀ e ∈ o.after, Region.binds .any e = true → L e.on = true) :
    wpOp Try.prog (tOps Try.f31) Q 39 (StepOk (tA s wt c ic d) (tG lo w0 s wt c ic d) L 39 o a w) a w := by
  obtain ⟨hop, hd, hg⟩ := face_of tOp39 ho
  refine wpOp_face ho hg ?_
  have v64 := dagVal hI tOp35 (depL tDeps (i := 39) (j := 35) (by decide) ho hdep)
  simp only [tA, aEx] at v64
  have v67 := dagVal hI tOp38 (depL tDeps (i := 39) (j := 38) (by decide) ho hdep)
  exact wp_value (x_row (FnOuts.func v67) hop v64 rfl) (tKeep hI T hd (by decide) (Below.refl _ _) ⟨_, rfl, v67⟩)

theorem tS40 (hI : DagI (tOps Try.f31) (tA s wt c ic d) (tG lo w0 s wt c ic d) a0 L a w) (T : TStart lo s wt c k ic t d a0 w0) (ho : (tOps Try.f31)[40]? = some o) (hL : L 40 = false) (hdep : ∀ e ∈ o.after, Region.binds .any e = true → L e.on = true) :
    wpOp Try.prog (tOps Try.f31) Q 40 (StepOk (tA s wt c ic d) (tG lo w0 s wt c ic d) L 40 o a w) a w := by
  obtain ⟨hop, hd, hg⟩ := face_of tOp40 ho
  refine wpOp_face ho hg ?_
  have v63 := dagVal hI tOp34 (depL tDeps (i := 40) (j := 34) (by decide) ho hdep)
  simp only [tA, aEx] at v63
  have v68 := dagVal hI tOp39 (depL tDeps (i := 40) (j := 39) (by decide) ho hdep)
  obtain ⟨f, e, hf⟩ := v68
  have hL0 := depL tDeps (i := 40) (j := 0) (by decide) ho hdep
  obtain ⟨r, h33, hr, ht⟩ := hI.2.2.map hL0
  have hn : ∀ y ∈ insd (tRows s wt c ic d) L, y.k ≠ (4, 5, 0, 13) := insd_key (by simp [tRows]) hL
  obtain ⟨w', hrun, t', g', k'⟩ := ht.insert ⟨(4, 5, 0, 13), ⟨7, 0, c⟩, [⟨7, 0, 0, 0⟩]⟩ hn hf
  refine wp_skip (x_insert hop (by rw [← Array.getD_eq_getD_getElem?]; exact h33) v63 e hrun) ?_
  exact tIns hI T hd h33 hr (by simp [tRows]) (by simp [tRows]) hL0 (by decide) t' g' k'

theorem tS41 (hI : DagI (tOps Try.f31) (tA s wt c ic d) (tG lo w0 s wt c ic d) a0 L a w) (T : TStart lo s wt c k ic t d a0 w0) (ho : (tOps Try.f31)[41]? = some o) (hL : L 41 = false) (hdep : ∀ e ∈ o.after, Region.binds .any e = true → L e.on = true) :
    wpOp Try.prog (tOps Try.f31) Q 41 (StepOk (tA s wt c ic d) (tG lo w0 s wt c ic d) L 41 o a w) a w := by
  obtain ⟨hop, hd, hg⟩ := face_of tOp41 ho
  refine wpOp_face ho hg ?_
  exact wp_value (w' := w) (by simp [execOp, hop, go_sem]) (tKeep hI T hd (by decide) (Below.refl _ _) rfl)

theorem tS42 (hI : DagI (tOps Try.f31) (tA s wt c ic d) (tG lo w0 s wt c ic d) a0 L a w) (T : TStart lo s wt c k ic t d a0 w0) (ho : (tOps Try.f31)[42]? = some o) (hL : L 42 = false) (hdep : ∀ e ∈ o.after, Region.binds .any e = true → L e.on = true) :
    wpOp Try.prog (tOps Try.f31) Q 42 (StepOk (tA s wt c ic d) (tG lo w0 s wt c ic d) L 42 o a w) a w := by
  obtain ⟨hop, hd, hg⟩ := face_of tOp42 ho
  refine wpOp_face ho hg ?_
  have hb := T.b2.kept hI.2.2.kept
  rw [← tSlot hI (x := 2) (by decide)] at hb
  exact wp_value (x_load26 hop hb) (tKeep hI T hd (by decide) (Below.refl _ _) rfl)

theorem tS43 (hI : DagI (tOps Try.f31) (tA s wt c ic d) (tG lo w0 s wt c ic d) a0 L a w) (T : TStart lo s wt c k ic t d a0 w0) (ho : (tOps Try.f31)[43]? = some o) (hL : L 43 = false) (hdep : ∀ e ∈ o.after, Region.binds .any e = true → L e.on = true) :
    wpOp Try.prog (tOps Try.f31) Q 43 (StepOk (tA s wt c ic d) (tG lo w0 s wt c ic d) L 43 o a w) a w := by
  obtain ⟨hop, hd, hg⟩ := face_of tOp43 ho
  refine wpOp_face ho hg ?_
  have hb := T.b8.kept hI.2.2.kept
  rw [← tSlot hI (x := 8) (by decide)] at hb
  exact wp_value (x_load40 hop hb) (tKeep hI T hd (by decide) (Below.refl _ _) rfl)

theorem tS44 (hI : DagI (tOps Try.f31) (tA s wt c ic d) (tG lo w0 s wt c ic d) a0 L a w) (T : TStart lo s wt c k ic t d a0 w0) (ho : (tOps Try.f31)[44]? = some o) (hL : L 44 = false) (hdep : ∀ e ∈ o.after, Region.binds .any e = true → L e.on = true) :
    wpOp Try.prog (tOps Try.f31) Q 44 (StepOk (tA s wt c ic d) (tG lo w0 s wt c ic d) L 44 o a w) a w := by
  obtain ⟨hop, hd, hg⟩ := face_of tOp44 ho
  refine wpOp_face ho hg ?_
  have v71 := dagVal hI tOp43 (depL tDeps (i := 44) (j := 43) (by decide) ho hdep)
  simp only [tA, aEx] at v71
  exact wp_value (x_slice1 hop v71) (tKeep hI T hd (by decide) ((Below.refl _ _).alloc (Nat.le_refl _) _) (Outs.new rfl (Nat.zero_le _) rfl rfl))

theorem tS45 (hI : DagI (tOps Try.f31) (tA s wt c ic d) (tG lo w0 s wt c ic d) a0 L a w) (T : TStart lo s wt c k ic t d a0 w0) (ho : (tOps Try.f31)[45]? = some o) (hL : L 45 = false) (hdep : ∀ e ∈ o.after, Region.binds .any e = true → L e.on = true) :
    wpOp Try.prog (tOps Try.f31) Q 45 (StepOk (tA s wt c ic d) (tG lo w0 s wt c ic d) L 45 o a w) a w := by
  obtain ⟨hop, hd, hg⟩ := face_of tOp45 ho
  refine wpOp_face ho hg ?_
  have v72 := dagVal hI tOp44 (depL tDeps (i := 45) (j := 44) (by decide) ho hdep)
  refine wp_enter (x_call36 hop rfl) (outputs_any _ _ _ v72 (by simp) (by simp)) ?_
  rintro e w2 ⟨f, rfl, hf, hb⟩
  exact ⟨f, rfl, tKeep hI T hd (by decide) hb hf⟩

theorem tS46 (hI : DagI (tOps Try.f31) (tA s wt c ic d) (tG lo w0 s wt c ic d) a0 L a w) (T : TStart lo s wt c k ic t d a0 w0) (ho : (tOps Try.f31)[46]? = some o) (hL : L 46 = false) (hdep : ∀ e ∈ o.after, Region.binds .any e = true → L e.on = true) :
    wpOp Try.prog (tOps Try.f31) Q 46 (StepOk (tA s wt c ic d) (tG lo w0 s wt c ic d) L 46 o a w) a w := by
  obtain ⟨hop, hd, hg⟩ := face_of tOp46 ho
  refine wpOp_face ho hg ?_
  have v70 := dagVal hI tOp42 (depL tDeps (i := 46) (j := 42) (by decide) ho hdep)
  simp only [tA, aEx] at v70
  have v73 := dagVal hI tOp45 (depL tDeps (i := 46) (j := 45) (by decide) ho hdep)
  exact wp_value (x_row (FnOuts.func v73) hop v70 rfl) (tKeep hI T hd (by decide) (Below.refl _ _) ⟨_, rfl, v73⟩)

theorem tS47 (hI : DagI (tOps Try.f31) (tA s wt c ic d) (tG lo w0 s wt c ic d) a0 L a w) (T : TStart lo s wt c k ic t d a0 w0) (ho : (tOps Try.f31)[47]? = some o) (hL : L 47 = false) (hdep : ∀ e ∈ o.after, Region.binds .any e = true → L e.on = true) :
    wpOp Try.prog (tOps Try.f31) Q 47 (StepOk (tA s wt c ic d) (tG lo w0 s wt c ic d) L 47 o a w) a w := by
  obtain ⟨hop, hd, hg⟩ := face_of tOp47 ho
  refine wpOp_face ho hg ?_
  have v69 := dagVal hI tOp41 (depL tDeps (i := 47) (j := 41) (by decide) ho hdep)
  simp only [tA, aEx] at v69
  have v74 := dagVal hI tOp46 (depL tDeps (i := 47) (j := 46) (by decide) ho hdep)
  obtain ⟨f, e, hf⟩ := v74
  have hL0 := depL tDeps (i := 47) (j := 0) (by decide) ho hdep
  obtain ⟨r, h33, hr, ht⟩ := hI.2.2.map hL0
  have hn : ∀ y ∈ insd (tRows s wt c ic d) L, y.k ≠ (5, 2, 3, 0) := insd_key (by simp [tRows]) hL
  obtain ⟨w', hrun, t', g', k'⟩ := ht.insert ⟨(5, 2, 3, 0), ⟨s, wt, c⟩, [⟨2, ic, 0, 0⟩]⟩ hn hf
  refine wp_skip (x_insert hop (by rw [← Array.getD_eq_getD_getElem?]; exact h33) v69 e hrun) ?_
  exact tIns hI T hd h33 hr (by simp [tRows]) (by simp [tRows]) hL0 (by decide) t' g' k'

theorem tS48 (hI : DagI (tOps Try.f31) (tA s wt c ic d) (tG lo w0 s wt c ic d) a0 L a w) (T : TStart lo s wt c k ic t d a0 w0) (ho : (tOps Try.f31)[48]? = some o) (hL : L 48 = false) (hdep : ∀ e ∈ o.after, Region.binds .any e = true → L e.on = true) :
    wpOp Try.prog (tOps Try.f31) Q 48 (StepOk (tA s wt c ic d) (tG lo w0 s wt c ic d) L 48 o a w) a w := by
  obtain ⟨hop, hd, hg⟩ := face_of tOp48 ho
  refine wpOp_face ho hg ?_
  exact wp_value (w' := w) (by simp [execOp, hop, go_sem]) (tKeep hI T hd (by decide) (Below.refl _ _) rfl)

theorem tS49 (hI : DagI (tOps Try.f31) (tA s wt c ic d) (tG lo w0 s wt c ic d) a0 L a w) (T : TStart lo s wt c k ic t d a0 w0) (ho : (tOps Try.f31)[49]? = some o) (hL : L 49 = false) (hdep : ∀ e ∈ o.after, Region.binds .any e = true → L e.on = true) :
    wpOp Try.prog (tOps Try.f31) Q 49 (StepOk (tA s wt c ic d) (tG lo w0 s wt c ic d) L 49 o a w) a w := by
  obtain ⟨hop, hd, hg⟩ := face_of tOp49 ho
  refine wpOp_face ho hg ?_
  have hb := T.b12.kept hI.2.2.kept
  rw [← tSlot hI (x := 12) (by decide)] at hb
  exact wp_value (x_load26 hop hb) (tKeep hI T hd (by decide) (Below.refl _ _) rfl)

theorem tS50 (hI : DagI (tOps Try.f31) (tA s wt c ic d) (tG lo w0 s wt c ic d) a0 L a w) (T : TStart lo s wt c k ic t d a0 w0) (ho : (tOps Try.f31)[50]? = some o) (hL : L 50 = false) (hdep : ∀ e ∈ o.after, Region.binds .any e = true → L e.on = true) :
    wpOp Try.prog (tOps Try.f31) Q 50 (StepOk (tA s wt c ic d) (tG lo w0 s wt c ic d) L 50 o a w) a w := by
  obtain ⟨hop, hd, hg⟩ := face_of tOp50 ho
  refine wpOp_face ho hg ?_
  have hb := T.b11.kept hI.2.2.kept
  rw [← tSlot hI (x := 11) (by decide)] at hb
  exact wp_value (x_load40 hop hb) (tKeep hI T hd (by decide) (Below.refl _ _) rfl)

theorem tS51 (hI : DagI (tOps Try.f31) (tA s wt c ic d) (tG lo w0 s wt c ic d) a0 L a w) (T : TStart lo s wt c k ic t d a0 w0) (ho : (tOps Try.f31)[51]? = some o) (hL : L 51 = false) (hdep : ∀ e ∈ o.after, Region.binds .any e = true → L e.on = true) :
    wpOp Try.prog (tOps Try.f31) Q 51 (StepOk (tA s wt c ic d) (tG lo w0 s wt c ic d) L 51 o a w) a w := by
  obtain ⟨hop, hd, hg⟩ := face_of tOp51 ho
  refine wpOp_face ho hg ?_
  have v77 := dagVal hI tOp50 (depL tDeps (i := 51) (j := 50) (by decide) ho hdep)
  simp only [tA, aEx] at v77
  exact wp_value (x_slice1 hop v77) (tKeep hI T hd (by decide) ((Below.refl _ _).alloc (Nat.le_refl _) _) (Outs.new rfl (Nat.zero_le _) rfl rfl))

theorem tS52 (hI : DagI (tOps Try.f31) (tA s wt c ic d) (tG lo w0 s wt c ic d) a0 L a w) (T : TStart lo s wt c k ic t d a0 w0) (ho : (tOps Try.f31)[52]? = some o) (hL : L 52 = false) (hdep : ∀ e ∈ o.after, Region.binds .any e = true → L e.on = true) :
    wpOp Try.prog (tOps Try.f31) Q 52 (StepOk (tA s wt c ic d) (tG lo w0 s wt c ic d) L 52 o a w) a w := by
  obtain ⟨hop, hd, hg⟩ := face_of tOp52 ho
  refine wpOp_face ho hg ?_
  have v78 := dagVal hI tOp51 (depL tDeps (i := 52) (j := 51) (by decide) ho hdep)
  refine wp_enter (x_call36 hop rfl) (outputs_any _ _ _ v78 (by simp) (by simp)) ?_
  rintro e w2 ⟨f, rfl, hf, hb⟩
  exact ⟨f, rfl, tKeep hI T hd (by decide) hb hf⟩

theorem tS53 (hI : DagI (tOps Try.f31) (tA s wt c ic d) (tG lo w0 s wt c ic d) a0 L a w) (T : TStart lo s wt c k ic t d a0 w0) (ho : (tOps Try.f31)[53]? = some o) (hL : L 53 = false) (hdep : ∀ e ∈ o.after, Region.binds .any e = true → L e.on = true) :
    wpOp Try.prog (tOps Try.f31) Q 53 (StepOk (tA s wt c ic d) (tG lo w0 s wt c ic d) L 53 o a w) a w := by
  obtain ⟨hop, hd, hg⟩ := face_of tOp53 ho
  refine wpOp_face ho hg ?_
  have v76 := dagVal hI tOp49 (depL tDeps (i := 53) (j := 49) (by decide) ho hdep)
  simp only [tA, aEx] at v76
  have v79 := dagVal hI tOp52 (depL tDeps (i := 53) (j := 52) (by decide) ho hdep)
  exact wp_value (x_row (FnOuts.func v79) hop v76 rfl) (tKeep hI T hd (by decide) (Below.refl _ _) ⟨_, rfl, v79⟩)

theorem tS54 (hI : DagI (tOps Try.f31) (tA s wt c ic d) (tG lo w0 s wt c ic d) a0 L a w) (T : TStart lo s wt c k ic t d a0 w0) (ho : (tOps Try.f31)[54]? = some o) (hL : L 54 = false) (hdep : ∀ e ∈ o.after, Region.binds .any e = true → L e.on = true) :
    wpOp Try.prog (tOps Try.f31) Q 54 (StepOk (tA s wt c ic d) (tG lo w0 s wt c ic d) L 54 o a w) a w := by
  obtain ⟨hop, hd, hg⟩ := face_of tOp54 ho
  refine wpOp_face ho hg ?_
  have v75 := dagVal hI tOp48 (depL tDeps (i := 54) (j := 48) (by decide) ho hdep)
  simp only [tA, aEx] at v75
  have v80 := dagVal hI tOp53 (depL tDeps (i := 54) (j := 53) (by decide) ho hdep)
  obtain ⟨f, e, hf⟩ := v80
  have hL0 := depL tDeps (i := 54) (j := 0) (by decide) ho hdep
  obtain ⟨r, h33, hr, ht⟩ := hI.2.2.map hL0
  have hn : ∀ y ∈ insd (tRows s wt c ic d) L, y.k ≠ (5, 5, 0, 4) := insd_key (by simp [tRows]) hL
  obtain ⟨w', hrun, t', g', k'⟩ := ht.insert ⟨(5, 5, 0, 4), ⟨7, 0, c⟩, [⟨7, 0, 0, 0⟩]⟩ hn hf
  refine wp_skip (x_insert hop (by rw [← Array.getD_eq_getD_getElem?]; exact h33) v75 e hrun) ?_
  exact tIns hI T hd h33 hr (by simp [tRows]) (by simp [tRows]) hL0 (by decide) t' g' k'

theorem tS55 (hI : DagI (tOps Try.f31) (tA s wt c ic d) (tG lo w0 s wt c ic d) a0 L a w) (T : TStart lo s wt c k ic t d a0 w0) (ho : (tOps Try.f31)[55]? = some o) (hL : L 55 = false) (hdep : ∀ e ∈ o.after, Region.binds .any e = true → L e.on = true) :
    wpOp Try.prog (tOps Try.f31) Q 55 (StepOk (tA s wt c ic d) (tG lo w0 s wt c ic d) L 55 o a w) a w := by
  obtain ⟨hop, hd, hg⟩ := face_of tOp55 ho
  refine wpOp_face ho hg ?_
  exact wp_value (w' := w) (by simp [execOp, hop, go_sem]) (tKeep hI T hd (by decide) (Below.refl _ _) rfl)

theorem tS56 (hI : DagI (tOps Try.f31) (tA s wt c ic d) (tG lo w0 s wt c ic d) a0 L a w) (T : TStart lo s wt c k ic t d a0 w0) (ho : (tOps Try.f31)[56]? = some o) (hL : L 56 = false) (hdep : ∀ e ∈ o.after, Region.binds .any e = true → L e.on = true) :
    wpOp Try.prog (tOps Try.f31) Q 56 (StepOk (tA s wt c ic d) (tG lo w0 s wt c ic d) L 56 o a w) a w := by
  obtain ⟨hop, hd, hg⟩ := face_of tOp56 ho
  refine wpOp_face ho hg ?_
  have hb := T.b12.kept hI.2.2.kept
  rw [← tSlot hI (x := 12) (by decide)] at hb
  exact wp_value (x_load26 hop hb) (tKeep hI T hd (by decide) (Below.refl _ _) rfl)

theorem tS57 (hI : DagI (tOps Try.f31) (tA s wt c ic d) (tG lo w0 s wt c ic d) a0 L a w) (T : TStart lo s wt c k ic t d a0 w0) (ho : (tOps Try.f31)[57]? = some o) (hL : L 57 = false) (hdep : ∀ e ∈ o.after, Region.binds .any e = true → L e.on = true) :
    wpOp Try.prog (tOps Try.f31) Q 57 (StepOk (tA s wt c ic d) (tG lo w0 s wt c ic d) L 57 o a w) a w := by
  obtain ⟨hop, hd, hg⟩ := face_of tOp57 ho
  refine wpOp_face ho hg ?_
  have hb := T.b10.kept hI.2.2.kept
  rw [← tSlot hI (x := 10) (by decide)] at hb
  exact wp_value (x_load40 hop hb) (tKeep hI T hd (by decide) (Below.refl _ _) rfl)

theorem tS58 (hI : DagI (tOps Try.f31) (tA s wt c ic d) (tG lo w0 s wt c ic d) a0 L a w) (T : TStart lo s wt c k ic t d a0 w0) (ho : (tOps Try.f31)[58]? = some o) (hL : L 58 = false) (hdep : ∀ e ∈ o.after, Region.binds .any e = true → L e.on = true) :
    wpOp Try.prog (tOps Try.f31) Q 58 (StepOk (tA s wt c ic d) (tG lo w0 s wt c ic d) L 58 o a w) a w := by
  obtain ⟨hop, hd, hg⟩ := face_of tOp58 ho
  refine wpOp_face ho hg ?_
  have hb := T.b11.kept hI.2.2.kept
  rw [← tSlot hI (x := 11) (by decide)] at hb
  exact wp_value (x_load40 hop hb) (tKeep hI T hd (by decide) (Below.refl _ _) rfl)

theorem tS59 (hI : DagI (tOps Try.f31) (tA s wt c ic d) (tG lo w0 s wt c ic d) a0 L a w) (T : TStart lo s wt c k ic t d a0 w0) (ho : (tOps Try.f31)[59]? = some o) (hL : L 59 = false) (hdep : ∀ e ∈ o.after, Region.binds .any e = true → L e.on = true) :
    wpOp Try.prog (tOps Try.f31) Q 59 (StepOk (tA s wt c ic d) (tG lo w0 s wt c ic d) L 59 o a w) a w := by
  obtain ⟨hop, hd, hg⟩ := face_of tOp59 ho
  refine wpOp_face ho hg ?_
  have v83 := dagVal hI tOp57 (depL tDeps (i := 59) (j := 57) (by decide) ho hdep)
  simp only [tA, aEx] at v83
  have v84 := dagVal hI tOp58 (depL tDeps (i := 59) (j := 58) (by decide) ho hdep)
  simp only [tA, aEx] at v84
  exact wp_value (x_slice2 hop v83 v84) (tKeep hI T hd (by decide) ((Below.refl _ _).alloc (Nat.le_refl _) _) (Outs.new rfl (Nat.zero_le _) rfl rfl))

theorem tS60 (hI : DagI (tOps Try.f31) (tA s wt c ic d) (tG lo w0 s wt c ic d) a0 L a w) (T : TStart lo s wt c k ic t d a0 w0) (ho : (tOps Try.f31)[60]? = some o) (hL : L 60 = false) (hdep : ∀ e ∈ o.after, Region.binds .any e = true → L e.on = true) :
    wpOp Try.prog (tOps Try.f31) Q 60 (StepOk (tA s wt c ic d) (tG lo w0 s wt c ic d) L 60 o a w) a w := by
  obtain ⟨hop, hd, hg⟩ := face_of tOp60 ho
  refine wpOp_face ho hg ?_
  have v85 := dagVal hI tOp59 (depL tDeps (i := 60) (j := 59) (by decide) ho hdep)
  refine wp_enter (x_call36 hop rfl) (outputs_any _ _ _ v85 (by simp) (by simp)) ?_
  rintro e w2 ⟨f, rfl, hf, hb⟩
  exact ⟨f, rfl, tKeep hI T hd (by decide) hb hf⟩

theorem tS61 (hI : DagI (tOps Try.f31) (tA s wt c ic d) (tG lo w0 s wt c ic d) a0 L a w) (T : TStart lo s wt c k ic t d a0 w0) (ho : (tOps Try.f31)[61]? = some o) (hL : L 61 = false) (hdep : ∀ e ∈ o.after, Region.binds .any e = true → L e.on = true) :
    wpOp Try.prog (tOps Try.f31) Q 61 (StepOk (tA s wt c ic d) (tG lo w0 s wt c ic d) L 61 o a w) a w := by
  obtain ⟨hop, hd, hg⟩ := face_of tOp61 ho
  refine wpOp_face ho hg ?_
  have v82 := dagVal hI tOp56 (depL tDeps (i := 61) (j := 56) (by decide) ho hdep)
  simp only [tA, aEx] at v82
  have v86 := dagVal hI tOp60 (depL tDeps (i := 61) (j := 60) (by decide) ho hdep)
  exact wp_value (x_row (FnOuts.func v86) hop v82 rfl) (tKeep hI T hd (by decide) (Below.refl _ _) ⟨_, rfl, v86⟩)

theorem tS62 (hI : DagI (tOps Try.f31) (tA s wt c ic d) (tG lo w0 s wt c ic d) a0 L a w) (T : TStart lo s wt c k ic t d a0 w0) (ho : (tOps Try.f31)[62]? = some o) (hL : L 62 = false) (hdep : ∀ e ∈ o.after, Region.binds .any e = true → L e.on = true) :
    wpOp Try.prog (tOps Try.f31) Q 62 (StepOk (tA s wt c ic d) (tG lo w0 s wt c ic d) L 62 o a w) a w := by
  obtain ⟨hop, hd, hg⟩ := face_of tOp62 ho
  refine wpOp_face ho hg ?_
  have v81 := dagVal hI tOp55 (depL tDeps (i := 62) (j := 55) (by decide) ho hdep)
  simp only [tA, aEx] at v81
  have v87 := dagVal hI tOp61 (depL tDeps (i := 62) (j := 61) (by decide) ho hdep)
  obtain ⟨f, e, hf⟩ := v87
  have hL0 := depL tDeps (i := 62) (j := 0) (by decide) ho hdep
  obtain ⟨r, h33, hr, ht⟩ := hI.2.2.map hL0
  have hn : ∀ y ∈ insd (tRows s wt c ic d) L, y.k ≠ (5, 6, 0, 0) := insd_key (by simp [tRows]) hL
  obtain ⟨w', hrun, t', g', k'⟩ := ht.insert ⟨(5, 6, 0, 0), ⟨7, 0, c⟩, [⟨6, 0, 0, 0⟩, ⟨7, 0, 0, 0⟩]⟩ hn hf
  refine wp_skip (x_insert hop (by rw [← Array.getD_eq_getD_getElem?]; exact h33) v81 e hrun) ?_
  exact tIns hI T hd h33 hr (by simp [tRows]) (by simp [tRows]) hL0 (by decide) t' g' k'

theorem tS63 (hI : DagI (tOps Try.f31) (tA s wt c ic d) (tG lo w0 s wt c ic d) a0 L a w) (T : TStart lo s wt c k ic t d a0 w0) (ho : (tOps Try.f31)[63]? = some o) (hL : L 63 = false) (hdep : ∀ e ∈ o.after, Region.binds .any e = true → L e.on = true) :
    wpOp Try.prog (tOps Try.f31) Q 63 (StepOk (tA s wt c ic d) (tG lo w0 s wt c ic d) L 63 o a w) a w := by
  obtain ⟨hop, hd, hg⟩ := face_of tOp63 ho
  refine wpOp_face ho hg ?_
  have g := hI.2.2
  have hsz : 88 < a.tmps.size := by rw [hI.1.1, T.size]; omega
  have hsame : insd (tRows s wt c ic d) (upd L 63) = insd (tRows s wt c ic d) L := insd_same (by simp [tRows])
  have h0 : ∀ {j : Nat}, j ≠ 63 → upd L 63 j = L j := fun h => by simp [upd, h]
  have hb : Below w.heap.size w w := Below.refl _ _
  skip
  have hl0 : L 0 = true := depL tDeps (i := 63) (j := 0) (by decide) ho hdep
  refine wp_value (x_move hop rfl) ?_
  refine ⟨_, rfl, fun j u hu => hu, fun _ _ => trivial, g.kept, g.below, fun hl => ?_, fun _ => ?_, fun hl => ?_, fun hl => ?_⟩
  · rw [h0 (by decide), hl0] at hl; cases hl
  · obtain ⟨r, e, hr, ht⟩ := g.map hl0
    exact ⟨r, by rw [hd, getD_put_other (by decide)]; exact e, hr, by rw [hsame]; exact ht⟩
  · exact ⟨by rw [h0 (by decide)]; exact hl0, by rw [hd, getD_put_same hsz, getD_put_other (by decide), Array.getD_eq_getD_getElem?]⟩
  · rw [h0 (by decide)] at hl; exact ⟨by rw [h0 (by decide)]; exact hl0, by rw [hd, getD_put_other (by decide), getD_put_other (by decide)]; exact (g.at13 hl).2⟩

theorem tS64 (hI : DagI (tOps Try.f31) (tA s wt c ic d) (tG lo w0 s wt c ic d) a0 L a w) (T : TStart lo s wt c k ic t d a0 w0) (ho : (tOps Try.f31)[64]? = some o) (hL : L 64 = false) (hdep : ∀ e ∈ o.after, Region.binds .any e = true → L e.on = true) :
    wpOp Try.prog (tOps Try.f31) Q 64 (StepOk (tA s wt c ic d) (tG lo w0 s wt c ic d) L 64 o a w) a w := by
  obtain ⟨hop, hd, hg⟩ := face_of tOp64 ho
  refine wpOp_face ho hg ?_
  have g := hI.2.2
  have hsz : 13 < a.tmps.size := by rw [hI.1.1, T.size]; omega
  have hsame : insd (tRows s wt c ic d) (upd L 64) = insd (tRows s wt c ic d) L := insd_same (by simp [tRows])
  have h0 : ∀ {j : Nat}, j ≠ 64 → upd L 64 j = L j := fun h => by simp [upd, h]
  have hb : Below w.heap.size w w := Below.refl _ _
  have hm := g.mv (depL tDeps (i := 64) (j := 63) (by decide) ho hdep)
  have hl0 : L 0 = true := hm.1
  refine wp_value (x_assign hop rfl) ?_
  refine ⟨_, rfl, fun j u hu => hu, fun _ _ => trivial, g.kept, g.below, fun hl => ?_, fun _ => ?_, fun hl => ?_, fun hl => ?_⟩
  · rw [h0 (by decide), hl0] at hl; cases hl
  · obtain ⟨r, e, hr, ht⟩ := g.map hl0
    exact ⟨r, by rw [hd, getD_put_other (by decide)]; exact e, hr, by rw [hsame]; exact ht⟩
  · rw [h0 (by decide)] at hl; exact ⟨by rw [h0 (by decide)]; exact hl0, by rw [hd, getD_put_other (by decide), getD_put_other (by decide)]; exact (g.mv hl).2⟩
  · exact ⟨by rw [h0 (by decide)]; exact hl0, by rw [hd, getD_put_same hsz, getD_put_other (by decide), ← Array.getD_eq_getD_getElem?]; exact hm.2⟩

end
end Go.Proofs.Ytdooohanhekniaa
