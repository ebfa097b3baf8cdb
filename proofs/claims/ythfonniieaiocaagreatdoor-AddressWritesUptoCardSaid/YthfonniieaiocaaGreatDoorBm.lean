/- Contracts: address's letter, digit, hexDigit. And what stands behind it. -/
import Derived.Test.YthfonniieaiocaaGreatDoorBd
import Derived.Test.YthfonniieaiocaaGreatDoorPh
import Derived.Shelf.Strings.Builder1
import Derived.Shelf.Strings.Builder2
import Derived.Shelf.Strings.OnBuilder
import Derived.Shelf.Strings.Trim
import Derived.Shelf.Small.Utf8
import Derived.Shelf.Small.Strs
import Derived.Shelf.Small.Wraps
import Derived.Shelf.Strings.BuilderF
import Derived.Shelf.Strings.BuilderK
import Derived.Shelf.Strings.Builder2Cap
import Derived.Shelf.Strconv.Itoa0
import Derived.Shelf.Strconv.Itoa1
import Derived.Shelf.LaysM
import Derived.Shelf.Strconv.Itoa2
import Derived.Shelf.Strconv.Itoa3
import Derived.Shelf.Strings.Search1
import Derived.Shelf.Strings.Search2
import Derived.Shelf.Strings.Search3
import Derived.Shelf.Strings.Cut
import Derived.Shelf.Strings.Count
import Derived.Shelf.Strings.Shaped
import Derived.Shelf.Strings.Prefix
import Derived.Shelf.Strings.Split
import Derived.Shelf.Strings.SplitShaped
import Derived.Shelf.Unicode.Decode
import Derived.Shelf.Strings.Runes
import Derived.Shelf.Strings.RuneCount
import Derived.Shelf.Strings.IndexAny
import Derived.Shelf.Strings.AsciiSet
import Derived.Shelf.Strings.IndexAnyAll
import Derived.Shelf.Strings.Explode
import Derived.Shelf.Unicode.DecodeSlow
import Derived.Shelf.Unicode.DecodeAny
import Derived.Shelf.Strings.BuilderCap
import Derived.Test.YthfonniieaiocaaGreatDoorProg
import Derived.Test.YthfonniieaiocaaGreatDoorCh
set_option linter.unusedVariables false
set_option linter.unusedSimpArgs false
namespace Go.Proofs.YthfonniieaiocaaGreatDoor
open Go.RowKit

theorem adletter_any (c : Int) (w : World) : Calls Tryz.prog 120 #[.int .u8 c] w fun e w' => e = .returned (.bool (isLet c)) ∧ w = w' := by
  unfold isLet
  cases d1 : decide (97 ≤ c) <;> cases d2 : decide (c ≤ 122) <;> cases d3 : decide (65 ≤ c) <;> cases d4 : decide (c ≤ 90)
  all_goals
    go_enter Tryz.func120, Tryz.ntmps120
    go_wp2
    go_ret
    exact ⟨rfl, rfl⟩
theorem addigit_any (c : Int) (w : World) : Calls Tryz.prog 121 #[.int .u8 c] w fun e w' => e = .returned (.bool (isDig c)) ∧ w = w' := by
  unfold isDig
  cases d1 : decide (48 ≤ c) <;> cases d2 : decide (c ≤ 57)
  all_goals
    go_enter Tryz.func121, Tryz.ntmps121
    go_wp2
    go_ret
    exact ⟨rfl, rfl⟩
def hexN (c : Int) : Int := if hexV c < 0 then 0 else hexV c
def hexB (c : Int) : Bool := decide (0 ≤ hexV c)
theorem hexV_dig {c : Int} (h : isDig c = true) : hexV c = c - 48 := by
  unfold isDig at h
  simp at h
  unfold hexV
  rw [if_pos h]
theorem hexV_low {c : Int} (h1 : 97 ≤ c) (h2 : c ≤ 102) : hexV c = c - 87 := by
  unfold hexV
  rw [if_neg (by omega), if_pos ⟨h1, h2⟩]
theorem hexV_up {c : Int} (h1 : 65 ≤ c) (h2 : c ≤ 70) : hexV c = c - 55 := by
  unfold hexV
  rw [if_neg (by omega), if_neg (by omega), if_pos ⟨h1, h2⟩]
theorem hexV_no {c : Int} (h0 : isDig c = false) (h1 : ¬ (97 ≤ c ∧ c ≤ 102)) (h2 : ¬ (65 ≤ c ∧ c ≤ 70)) : hexV c = -1 := by
  unfold isDig at h0
  simp at h0
  unfold hexV
  rw [if_neg (by omega), if_neg h1, if_neg h2]
theorem ret_hex {a b : Int} {x y : Bool} (h : a = b) (h2 : x = y) : Ending.returned (.tuple #[.int .u8 a, .bool x]) = .returned (.tuple #[.int .u8 b, .bool y]) := by rw [h, h2]
set_option maxRecDepth 100000 in
theorem hexdigit_any (c : Int) (w : World) (h0 : 0 ≤ c) (h1 : c < 256) : Calls Tryz.prog 122 #[.int .u8 c] w fun e w' => e = .returned (.tuple #[.int .u8 (hexN c), .bool (hexB c)]) ∧ w = w' := by
  have DG := kd (fun w => addigit_any c w)
  cases hd : isDig c with
  | true =>
    have E := kd (hexV_dig hd)
    have R := kd hd
    unfold isDig at hd
    simp at hd
    rw [R.out] at DG
    go_enter Tryz.func122, Tryz.ntmps122
    go_wp2_with (go_at_call 121; refine (DG.out _).mono ?_; rintro e w' ⟨rfl, rfl⟩)
    go_ret2
    exact ⟨ret_hex (by unfold hexN; rw [E.out, if_neg (by omega)]) (by unfold hexB; rw [E.out]; simp; omega), rfl⟩
  | false =>
    by_cases ha : 97 ≤ c ∧ c ≤ 102
    · have E := kd (hexV_low ha.1 ha.2)
      obtain ⟨a1, a2⟩ := ha
      have d1 : decide (97 ≤ c) = true := by simp [a1]
      have d2 : decide (c ≤ 102) = true := by simp [a2]
      rw [hd] at DG
      go_enter Tryz.func122, Tryz.ntmps122
      go_wp2_with (go_at_call 121; refine (DG.out _).mono ?_; rintro e w' ⟨rfl, rfl⟩)
      go_ret2
      exact ⟨ret_hex (by unfold hexN; rw [E.out, if_neg (by omega)]; omega) (by unfold hexB; rw [E.out]; simp; omega), rfl⟩
    · by_cases hb : 65 ≤ c ∧ c ≤ 70
      · have E := kd (hexV_up hb.1 hb.2)
        obtain ⟨a1, a2⟩ := hb
        have d0 : decide (97 ≤ c) = false := by simp; omega
        have d1 : decide (65 ≤ c) = true := by simp [a1]
        have d2 : decide (c ≤ 70) = true := by simp [a2]
        rw [hd] at DG
        go_enter Tryz.func122, Tryz.ntmps122
        go_wp2_with (go_at_call 121; refine (DG.out _).mono ?_; rintro e w' ⟨rfl, rfl⟩)
        go_ret2
        exact ⟨ret_hex (by unfold hexN; rw [E.out, if_neg (by omega)]; omega) (by unfold hexB; rw [E.out]; simp; omega), rfl⟩
      · have E := kd (hexV_no hd ha hb)
        rw [hd] at DG
        cases d0 : decide (97 ≤ c) <;> cases d1 : decide (c ≤ 102) <;> cases d2 : decide (65 ≤ c) <;> cases d3 : decide (c ≤ 70)
        all_goals first
          | (exfalso; simp at d0 d1 d2 d3; omega)
          | (go_enter Tryz.func122, Tryz.ntmps122
             go_wp2_with (go_at_call 121; refine (DG.out _).mono ?_; rintro e w' ⟨rfl, rfl⟩)
             go_ret2
             exact ⟨ret_hex (by unfold hexN; rw [E.out, if_pos (by omega)]) (by unfold hexB; rw [E.out]; rfl), rfl⟩)
end Go.Proofs.YthfonniieaiocaaGreatDoor
namespace Go.Proofs
open Go.Shelf
def Tryz.lays161_ren : Go.Shelf.Ren := ⟨fun | 161 => 161 | 231 => 185 | 227 => 170 | 233 => 186 | 235 => 187 | 228 => 171 | 197 => 192 | 151 => 204 | 260 => 208 | 152 => 168 | 137 => 66 | 119 => 194 | 224 => 195 | 225 => 196 | 217 => 130 | 266 => 166 | n => n, fun | 9 => 9 | 4 => 4 | 3 => 3 | 5 => 5 | 117 => 160 | 116 => 159 | 0 => 0 | 124 => 174 | 105 => 176 | 21 => 21 | 119 => 197 | 46 => 70 | 139 => 200 | 138 => 199 | n => n, fun | 3 => 3 | 4 => 4 | n => n⟩
theorem Tryz.lays161 : Go.Proofs.Lays.n161 Tryz.prog Tryz.lays161_ren := {
  mixed := by kernel_rfl
  f119 := Tryz.func194.trans (congrArg some (by kernel_rfl))
  f137 := Tryz.func66.trans (congrArg some (by kernel_rfl))
  f151 := Tryz.func204.trans (congrArg some (by kernel_rfl))
  f152 := Tryz.func168.trans (congrArg some (by kernel_rfl))
  f161 := Tryz.func161.trans (congrArg some (by kernel_rfl))
  f197 := Tryz.func192.trans (congrArg some (by kernel_rfl))
  f217 := Tryz.func130.trans (congrArg some (by kernel_rfl))
  f224 := Tryz.func195.trans (congrArg some (by kernel_rfl))
  f225 := Tryz.func196.trans (congrArg some (by kernel_rfl))
  f227 := Tryz.func170.trans (congrArg some (by kernel_rfl))
  f228 := Tryz.func171.trans (congrArg some (by kernel_rfl))
  f231 := Tryz.func185.trans (congrArg some (by kernel_rfl))
  f233 := Tryz.func186.trans (congrArg some (by kernel_rfl))
  f235 := Tryz.func187.trans (congrArg some (by kernel_rfl))
  f260 := Tryz.func208.trans (congrArg some (by kernel_rfl))
  f266 := Tryz.func166.trans (congrArg some (by kernel_rfl))
  t0 := Tryz.underlying0
  a0 := Tryz.isAgg0
  z0 := Tryz.sizeOf0
  v0 := Tryz.zeroValue0
  t3 := Tryz.underlying3
  a3 := Tryz.isAgg3
  z3 := Tryz.sizeOf3
  v3 := Tryz.zeroValue3
  t4 := Tryz.underlying4
  a4 := Tryz.isAgg4
  z4 := Tryz.sizeOf4
  v4 := Tryz.zeroValue4
  t5 := Tryz.underlying5
  a5 := Tryz.isAgg5
  z5 := Tryz.sizeOf5
  v5 := Tryz.zeroValue5
  t9 := Tryz.underlying9
  a9 := Tryz.isAgg9
  z9 := Tryz.sizeOf9
  v9 := Tryz.zeroValue9
  t21 := Tryz.underlying21
  a21 := Tryz.isAgg21
  z21 := Tryz.sizeOf21
  v21 := Tryz.zeroValue21
  t46 := Tryz.underlying70
  a46 := Tryz.isAgg70
  z46 := Tryz.sizeOf70
  v46 := Tryz.zeroValue70
  t105 := Tryz.underlying176
  a105 := Tryz.isAgg176
  z105 := Tryz.sizeOf176
  v105 := Tryz.zeroValue176
  t116 := Tryz.underlying159
  a116 := Tryz.isAgg159
  z116 := Tryz.sizeOf159
  t117 := Tryz.underlying160
  a117 := Tryz.isAgg160
  z117 := Tryz.sizeOf160
  v117 := Tryz.zeroValue160
  t119 := Tryz.underlying197
  a119 := Tryz.isAgg197
  z119 := Tryz.sizeOf197
  t124 := Tryz.underlying174
  a124 := Tryz.isAgg174
  z124 := Tryz.sizeOf174
  v124 := Tryz.zeroValue174
  t138 := Tryz.underlying199
  a138 := Tryz.isAgg199
  z138 := Tryz.sizeOf199
  v138 := Tryz.zeroValue199
  t139 := Tryz.underlying200
  a139 := Tryz.isAgg200
  z139 := Tryz.sizeOf200
  v139 := Tryz.zeroValue200
  g3 := by kernel_rfl
  g4 := by kernel_rfl }
open Go.RowKit in
theorem Tryz.strings_TrimLeft_one (s : ByteArray) (c : UInt8) (hc : c.toNat < 128) (w : World) :
    Calls Tryz.prog 161 #[.string s, .string ⟨#[c]⟩] w fun e w' => e = .returned (.string ⟨(Lib.trimLeftB s.data.toList c).toArray⟩) ∧ w' = w := Any.strings_TrimLeft_one Tryz.lays161 s c hc w
def Tryz.lays119_ren : Go.Shelf.Ren := ⟨fun | 119 => 194 | n => n, fun | 21 => 21 | 4 => 4 | n => n, fun | n => n⟩
theorem Tryz.lays119 : Go.Proofs.Lays.n119 Tryz.prog Tryz.lays119_ren := {
  mixed := by kernel_rfl
  f119 := Tryz.func194.trans (congrArg some (by kernel_rfl))
  t4 := Tryz.underlying4
  a4 := Tryz.isAgg4
  z4 := Tryz.sizeOf4
  v4 := Tryz.zeroValue4
  t21 := Tryz.underlying21
  a21 := Tryz.isAgg21
  z21 := Tryz.sizeOf21
  v21 := Tryz.zeroValue21 }
theorem Tryz.utf8_ValidRune (r : Int) (w : World) :
    Calls Tryz.prog 194 #[.int .i32 r] w fun e w' => e = .returned (.bool (Lib.validRune r)) ∧ w' = w := Any.utf8_ValidRune Tryz.lays119 r w
def Tryz.lays143_ren : Go.Shelf.Ren := ⟨fun | 143 => 146 | 219 => 177 | 217 => 130 | 225 => 196 | 224 => 195 | 267 => 199 | 266 => 166 | 314 => 210 | n => n, fun | 9 => 9 | 3 => 3 | 4 => 4 | 5 => 5 | 46 => 70 | 146 => 191 | 51 => 190 | n => n, fun | 1 => 1 | n => n⟩
theorem Tryz.lays143 : Go.Proofs.Lays.n143 Tryz.prog Tryz.lays143_ren := {
  mixed := by kernel_rfl
  f143 := Tryz.func146.trans (congrArg some (by kernel_rfl))
  f217 := Tryz.func130.trans (congrArg some (by kernel_rfl))
  f219 := Tryz.func177.trans (congrArg some (by kernel_rfl))
  f224 := Tryz.func195.trans (congrArg some (by kernel_rfl))
  f225 := Tryz.func196.trans (congrArg some (by kernel_rfl))
  f266 := Tryz.func166.trans (congrArg some (by kernel_rfl))
  f267 := Tryz.func199.trans (congrArg some (by kernel_rfl))
  f314 := Tryz.func210.trans (congrArg some (by kernel_rfl))
  t3 := Tryz.underlying3
  a3 := Tryz.isAgg3
  z3 := Tryz.sizeOf3
  v3 := Tryz.zeroValue3
  t4 := Tryz.underlying4
  a4 := Tryz.isAgg4
  z4 := Tryz.sizeOf4
  v4 := Tryz.zeroValue4
  t5 := Tryz.underlying5
  a5 := Tryz.isAgg5
  z5 := Tryz.sizeOf5
  v5 := Tryz.zeroValue5
  t9 := Tryz.underlying9
  a9 := Tryz.isAgg9
  z9 := Tryz.sizeOf9
  v9 := Tryz.zeroValue9
  t46 := Tryz.underlying70
  a46 := Tryz.isAgg70
  z46 := Tryz.sizeOf70
  v46 := Tryz.zeroValue70
  t51 := Tryz.underlying190
  a51 := Tryz.isAgg190
  z51 := Tryz.sizeOf190
  v51 := Tryz.zeroValue190
  t146 := Tryz.underlying191
  a146 := Tryz.isAgg191
  z146 := Tryz.sizeOf191
  v146 := Tryz.zeroValue191
  g1 := by kernel_rfl }
open Go.RowKit Go.Lib in
theorem Tryz.strings_Index_one (s : ByteArray) (c : UInt8) (w : World) :
    Calls Tryz.prog 146 #[.string s, .string ⟨#[c]⟩] w fun e w' => e = .returned (.int .i64 (Lib.indexByte s.data.toList c)) ∧ w' = w := Any.strings_Index_one Tryz.lays143 s c w
def Tryz.lays144_ren : Go.Shelf.Ren := ⟨fun | 144 => 82 | 143 => 146 | 219 => 177 | 217 => 130 | 225 => 196 | 224 => 195 | 267 => 199 | 266 => 166 | 314 => 210 | n => n, fun | 9 => 9 | 4 => 4 | 3 => 3 | 5 => 5 | 46 => 70 | 146 => 191 | 51 => 190 | n => n, fun | 1 => 1 | n => n⟩
theorem Tryz.lays144 : Go.Proofs.Lays.n144 Tryz.prog Tryz.lays144_ren := {
  mixed := by kernel_rfl
  f143 := Tryz.func146.trans (congrArg some (by kernel_rfl))
  f144 := Tryz.func82.trans (congrArg some (by kernel_rfl))
  f217 := Tryz.func130.trans (congrArg some (by kernel_rfl))
  f219 := Tryz.func177.trans (congrArg some (by kernel_rfl))
  f224 := Tryz.func195.trans (congrArg some (by kernel_rfl))
  f225 := Tryz.func196.trans (congrArg some (by kernel_rfl))
  f266 := Tryz.func166.trans (congrArg some (by kernel_rfl))
  f267 := Tryz.func199.trans (congrArg some (by kernel_rfl))
  f314 := Tryz.func210.trans (congrArg some (by kernel_rfl))
  t3 := Tryz.underlying3
  a3 := Tryz.isAgg3
  z3 := Tryz.sizeOf3
  v3 := Tryz.zeroValue3
  t4 := Tryz.underlying4
  a4 := Tryz.isAgg4
  z4 := Tryz.sizeOf4
  v4 := Tryz.zeroValue4
  t5 := Tryz.underlying5
  a5 := Tryz.isAgg5
  z5 := Tryz.sizeOf5
  v5 := Tryz.zeroValue5
  t9 := Tryz.underlying9
  a9 := Tryz.isAgg9
  z9 := Tryz.sizeOf9
  v9 := Tryz.zeroValue9
  t46 := Tryz.underlying70
  a46 := Tryz.isAgg70
  z46 := Tryz.sizeOf70
  v46 := Tryz.zeroValue70
  t51 := Tryz.underlying190
  a51 := Tryz.isAgg190
  z51 := Tryz.sizeOf190
  v51 := Tryz.zeroValue190
  t146 := Tryz.underlying191
  a146 := Tryz.isAgg191
  z146 := Tryz.sizeOf191
  v146 := Tryz.zeroValue191
  g1 := by kernel_rfl }
open Go.RowKit Go.Lib in
theorem Tryz.strings_Contains_one (s : ByteArray) (c : UInt8) (w : World) :
    Calls Tryz.prog 82 #[.string s, .string ⟨#[c]⟩] w fun e w' => e = .returned (.bool (decide (0 ≤ Lib.indexByte s.data.toList c))) ∧ w' = w := Any.strings_Contains_one Tryz.lays144 s c w
def Tryz.lays145_ren : Go.Shelf.Ren := ⟨fun | 145 => 124 | 220 => 160 | 219 => 177 | 217 => 130 | 225 => 196 | 224 => 195 | 267 => 199 | 266 => 166 | 314 => 210 | n => n, fun | 9 => 9 | 4 => 4 | 59 => 127 | 3 => 3 | 5 => 5 | 46 => 70 | 146 => 191 | 51 => 190 | n => n, fun | 1 => 1 | n => n⟩
theorem Tryz.lays145 : Go.Proofs.Lays.n145 Tryz.prog Tryz.lays145_ren := {
  mixed := by kernel_rfl
  f145 := Tryz.func124.trans (congrArg some (by kernel_rfl))
  f217 := Tryz.func130.trans (congrArg some (by kernel_rfl))
  f219 := Tryz.func177.trans (congrArg some (by kernel_rfl))
  f220 := Tryz.func160.trans (congrArg some (by kernel_rfl))
  f224 := Tryz.func195.trans (congrArg some (by kernel_rfl))
  f225 := Tryz.func196.trans (congrArg some (by kernel_rfl))
  f266 := Tryz.func166.trans (congrArg some (by kernel_rfl))
  f267 := Tryz.func199.trans (congrArg some (by kernel_rfl))
  f314 := Tryz.func210.trans (congrArg some (by kernel_rfl))
  t3 := Tryz.underlying3
  a3 := Tryz.isAgg3
  z3 := Tryz.sizeOf3
  v3 := Tryz.zeroValue3
  t4 := Tryz.underlying4
  a4 := Tryz.isAgg4
  z4 := Tryz.sizeOf4
  v4 := Tryz.zeroValue4
  t5 := Tryz.underlying5
  a5 := Tryz.isAgg5
  z5 := Tryz.sizeOf5
  v5 := Tryz.zeroValue5
  t9 := Tryz.underlying9
  a9 := Tryz.isAgg9
  z9 := Tryz.sizeOf9
  v9 := Tryz.zeroValue9
  t46 := Tryz.underlying70
  a46 := Tryz.isAgg70
  z46 := Tryz.sizeOf70
  v46 := Tryz.zeroValue70
  t51 := Tryz.underlying190
  a51 := Tryz.isAgg190
  z51 := Tryz.sizeOf190
  v51 := Tryz.zeroValue190
  t59 := Tryz.underlying127
  a59 := Tryz.isAgg127
  z59 := Tryz.sizeOf127
  v59 := Tryz.zeroValue127
  t146 := Tryz.underlying191
  a146 := Tryz.isAgg191
  z146 := Tryz.sizeOf191
  v146 := Tryz.zeroValue191
  g1 := by kernel_rfl }
open Go.RowKit Go.Lib in
theorem Tryz.strings_Cut (s sep : ByteArray) (m : Int) (w : World) (hs : s.size < 4294967281) (hm : w.cell? ⟨1, 0, none⟩ = some (.int .i64 m)) :
    Calls Tryz.prog 124 #[.string s, .string sep] w fun e w' => e = .returned (.tuple #[.string ⟨(Lib.cut s.data.toList sep.data.toList).1.toArray⟩, .string ⟨(Lib.cut s.data.toList sep.data.toList).2.1.toArray⟩, .bool (Lib.cut s.data.toList sep.data.toList).2.2]) ∧ ∃ n, w' = w.drewN n := Any.strings_Cut Tryz.lays145 s sep m w hs hm
def Tryz.lays152_ren : Go.Shelf.Ren := ⟨fun | 152 => 168 | 137 => 66 | 119 => 194 | 224 => 195 | 225 => 196 | 217 => 130 | 266 => 166 | n => n, fun | 9 => 9 | 21 => 21 | 3 => 3 | 4 => 4 | 5 => 5 | 0 => 0 | 46 => 70 | n => n, fun | n => n⟩
theorem Tryz.lays152 : Go.Proofs.Lays.n152 Tryz.prog Tryz.lays152_ren := {
  mixed := by kernel_rfl
  f119 := Tryz.func194.trans (congrArg some (by kernel_rfl))
  f137 := Tryz.func66.trans (congrArg some (by kernel_rfl))
  f152 := Tryz.func168.trans (congrArg some (by kernel_rfl))
  f217 := Tryz.func130.trans (congrArg some (by kernel_rfl))
  f224 := Tryz.func195.trans (congrArg some (by kernel_rfl))
  f225 := Tryz.func196.trans (congrArg some (by kernel_rfl))
  f266 := Tryz.func166.trans (congrArg some (by kernel_rfl))
  t0 := Tryz.underlying0
  a0 := Tryz.isAgg0
  z0 := Tryz.sizeOf0
  v0 := Tryz.zeroValue0
  t3 := Tryz.underlying3
  a3 := Tryz.isAgg3
  z3 := Tryz.sizeOf3
  v3 := Tryz.zeroValue3
  t4 := Tryz.underlying4
  a4 := Tryz.isAgg4
  z4 := Tryz.sizeOf4
  v4 := Tryz.zeroValue4
  t5 := Tryz.underlying5
  a5 := Tryz.isAgg5
  z5 := Tryz.sizeOf5
  v5 := Tryz.zeroValue5
  t9 := Tryz.underlying9
  a9 := Tryz.isAgg9
  z9 := Tryz.sizeOf9
  v9 := Tryz.zeroValue9
  t21 := Tryz.underlying21
  a21 := Tryz.isAgg21
  z21 := Tryz.sizeOf21
  v21 := Tryz.zeroValue21
  t46 := Tryz.underlying70
  a46 := Tryz.isAgg70
  z46 := Tryz.sizeOf70
  v46 := Tryz.zeroValue70 }
open Go.RowKit Go.Lib in
theorem Tryz.strings_IndexRune_ascii (s : ByteArray) (r : Int) (w : World) (h0 : 0 ≤ r) (h1 : r < 128) :
    Calls Tryz.prog 168 #[.string s, .int .i32 r] w fun e w' => e = .returned (.int .i64 (Lib.indexByte s.data.toList r.toNat.toUInt8)) ∧ w' = w := Any.strings_IndexRune_ascii Tryz.lays152 s r w h0 h1
def Tryz.lays226_ren : Go.Shelf.Ren := ⟨fun | 226 => 169 | n => n, fun | 3 => 3 | 4 => 4 | n => n, fun | n => n⟩
theorem Tryz.lays226 : Go.Proofs.Lays.n226 Tryz.prog Tryz.lays226_ren := {
  mixed := by kernel_rfl
  f226 := Tryz.func169.trans (congrArg some (by kernel_rfl))
  t3 := Tryz.underlying3
  a3 := Tryz.isAgg3
  z3 := Tryz.sizeOf3
  v3 := Tryz.zeroValue3
  t4 := Tryz.underlying4
  a4 := Tryz.isAgg4
  z4 := Tryz.sizeOf4
  v4 := Tryz.zeroValue4 }
open Go.RowKit Go.Lib in
theorem Tryz.strings_shouldUseASCIISet (n : Int) (w : World) :
    Calls Tryz.prog 169 #[.int .i64 n] w fun e w' => e = .returned (.bool (decide (8 < n))) ∧ w' = w := Any.strings_shouldUseASCIISet Tryz.lays226 n w
def Tryz.lays153_ren : Go.Shelf.Ren := ⟨fun | 153 => 135 | 152 => 168 | 226 => 169 | 227 => 170 | 228 => 171 | 137 => 66 | 119 => 194 | 224 => 195 | 225 => 196 | 217 => 130 | 266 => 166 | n => n, fun | 9 => 9 | 3 => 3 | 4 => 4 | 5 => 5 | 21 => 21 | 117 => 160 | 116 => 159 | 0 => 0 | 46 => 70 | 124 => 174 | n => n, fun | n => n⟩
theorem Tryz.lays153 : Go.Proofs.Lays.n153 Tryz.prog Tryz.lays153_ren := {
  mixed := by kernel_rfl
  f119 := Tryz.func194.trans (congrArg some (by kernel_rfl))
  f137 := Tryz.func66.trans (congrArg some (by kernel_rfl))
  f152 := Tryz.func168.trans (congrArg some (by kernel_rfl))
  f153 := Tryz.func135.trans (congrArg some (by kernel_rfl))
  f217 := Tryz.func130.trans (congrArg some (by kernel_rfl))
  f224 := Tryz.func195.trans (congrArg some (by kernel_rfl))
  f225 := Tryz.func196.trans (congrArg some (by kernel_rfl))
  f226 := Tryz.func169.trans (congrArg some (by kernel_rfl))
  f227 := Tryz.func170.trans (congrArg some (by kernel_rfl))
  f228 := Tryz.func171.trans (congrArg some (by kernel_rfl))
  f266 := Tryz.func166.trans (congrArg some (by kernel_rfl))
  t0 := Tryz.underlying0
  a0 := Tryz.isAgg0
  z0 := Tryz.sizeOf0
  v0 := Tryz.zeroValue0
  t3 := Tryz.underlying3
  a3 := Tryz.isAgg3
  z3 := Tryz.sizeOf3
  v3 := Tryz.zeroValue3
  t4 := Tryz.underlying4
  a4 := Tryz.isAgg4
  z4 := Tryz.sizeOf4
  v4 := Tryz.zeroValue4
  t5 := Tryz.underlying5
  a5 := Tryz.isAgg5
  z5 := Tryz.sizeOf5
  v5 := Tryz.zeroValue5
  t9 := Tryz.underlying9
  a9 := Tryz.isAgg9
  z9 := Tryz.sizeOf9
  v9 := Tryz.zeroValue9
  t21 := Tryz.underlying21
  a21 := Tryz.isAgg21
  z21 := Tryz.sizeOf21
  v21 := Tryz.zeroValue21
  t46 := Tryz.underlying70
  a46 := Tryz.isAgg70
  z46 := Tryz.sizeOf70
  v46 := Tryz.zeroValue70
  t116 := Tryz.underlying159
  a116 := Tryz.isAgg159
  z116 := Tryz.sizeOf159
  t117 := Tryz.underlying160
  a117 := Tryz.isAgg160
  z117 := Tryz.sizeOf160
  v117 := Tryz.zeroValue160
  t124 := Tryz.underlying174
  a124 := Tryz.isAgg174
  z124 := Tryz.sizeOf174
  v124 := Tryz.zeroValue174 }
open Go.RowKit Go.Lib in
theorem Tryz.strings_IndexAny_one (s chars : ByteArray) (w : World) (h1 : chars.size = 1) (hascii : ∀ (j : Nat) b, chars.data.toList[j]? = some b → b.toNat < 128) :
    Calls Tryz.prog 135 #[.string s, .string chars] w fun e w' => e = .returned (.int .i64 (Lib.indexAny s.data.toList chars.data.toList)) ∧ w' = w := Any.strings_IndexAny_one Tryz.lays153 s chars w h1 hascii
open Go.RowKit Go.Lib in
theorem Tryz.strings_IndexAny_long (hv116 : ∀ w, (zeroValue 159).run Tryz.prog w = .ok (.agg (Array.replicate 256 (.bool false))) w) (s chars : ByteArray) (w : World) (h2 : 2 ≤ chars.size) (h8 : 8 < s.size) (hs : s.size < 4294967281) (hcs : chars.size < 4294967281) (hascii : ∀ (j : Nat) b, chars.data.toList[j]? = some b → b.toNat < 128) :
    Calls Tryz.prog 135 #[.string s, .string chars] w fun e w' => e = .returned (.int .i64 (Lib.indexAny s.data.toList chars.data.toList)) ∧ w' = ((w.alloc (.cells (Lib.setCells chars.data.toList) 159)).alloc (.cells (Lib.setCells chars.data.toList) 159)) := Any.strings_IndexAny_long Tryz.lays153 hv116 (by kernel_rfl) s chars w h2 h8 hs hcs hascii
end Go.Proofs
namespace Go.Proofs.YthfonniieaiocaaGreatDoor
open Go.RowKit

theorem bl_dropOne (c : UInt8) : ∀ l : List UInt8, bl (l.dropWhile (· == c)) = (bl l).dropWhile (· == (c.toNat : Int))
  | [] => rfl
  | b :: l => by
    rw [show bl (b :: l) = (b.toNat : Int) :: bl l from rfl, List.dropWhile_cons, List.dropWhile_cons]
    by_cases h : b = c
    · subst h
      rw [if_pos (by simp), if_pos (by simp), bl_dropOne _ l]
    · rw [if_neg (by simpa using h), if_neg (by
        rw [beq_iff_eq]
        exact fun e => h (UInt8.toNat_inj.1 (by omega)))]
      rfl
theorem trim0_any (s : ByteArray) (w : World) : Calls Tryz.prog 161 #[.string s, .string ⟨#[48]⟩] w fun e w' => e = .returned (.string (strOfNums ((byteL s).dropWhile (· == 48)))) ∧ w = w' :=
  (Tryz.strings_TrimLeft_one s 48 (by decide) w).mono fun e w' ⟨he, hw⟩ => ⟨by rw [he, show Lib.trimLeftB s.data.toList 48 = s.data.toList.dropWhile (· == 48) from rfl, mk_str (bl_dropOne 48 s.data.toList)]; rfl, hw.symm⟩
theorem dbl_none {l : List UInt8} (h : dblL (bl l) = none) : Lib.index l [58, 58] = -1 := by
  induction l with
  | nil => rfl
  | cons b l ih =>
    cases l with
    | nil => rw [Lib.index]; simp [Lib.index]
    | cons d r =>
      rw [show bl (b :: d :: r) = (b.toNat : Int) :: (d.toNat : Int) :: bl r from rfl, dblL] at h
      split at h
      · cases h
      · rename_i hn
        have h2 : dblL (bl (d :: r)) = none := by
          rw [show bl (d :: r) = (d.toNat : Int) :: bl r from rfl]
          cases hq : dblL ((d.toNat : Int) :: bl r) with
          | none => rfl
          | some q => rw [hq] at h; cases h
        have hp : ([58, 58] : List UInt8).isPrefixOf (b :: d :: r) = false := by
          rw [Bool.eq_false_iff]
          intro hp
          simp [List.isPrefixOf] at hp
          exact hn ⟨by rw [← hp.1]; rfl, by rw [← hp.2]; rfl⟩
        rw [Lib.index, hp, ih h2]
        rfl
theorem dbl_some : ∀ {l : List UInt8} {p : List Int × List Int}, dblL (bl l) = some p → 0 ≤ Lib.index l [58, 58] ∧ bl (l.take (Lib.index l [58, 58]).toNat) = p.1 ∧ bl (l.drop ((Lib.index l [58, 58]).toNat + 2)) = p.2
  | [], p, h => by cases h
  | [b], p, h => by cases h
  | b :: d :: r, p, h => by
    rw [show bl (b :: d :: r) = (b.toNat : Int) :: (d.toNat : Int) :: bl r from rfl, dblL] at h
    split at h
    · rename_i hn
      injection h with h
      subst h
      have hb : b = 58 := UInt8.toNat_inj.1 (by have := hn.1; show b.toNat = 58; omega)
      have hd : d = 58 := UInt8.toNat_inj.1 (by have := hn.2; show d.toNat = 58; omega)
      subst hb; subst hd
      have hp : ([58, 58] : List UInt8).isPrefixOf (58 :: 58 :: r) = true := by simp [List.isPrefixOf]
      rw [Lib.index, hp, if_pos rfl]
      exact ⟨by decide, rfl, rfl⟩
    · rename_i hn
      cases hq : dblL (bl (d :: r)) with
      | none =>
        rw [show ((d.toNat : Int) :: bl r) = bl (d :: r) from rfl, hq] at h
        cases h
      | some q =>
        rw [show ((d.toNat : Int) :: bl r) = bl (d :: r) from rfl, hq] at h
        injection h with h
        subst h
        obtain ⟨h1, h2, h3⟩ := dbl_some hq
        have hp : ([58, 58] : List UInt8).isPrefixOf (b :: d :: r) = false := by
          rw [Bool.eq_false_iff]
          intro hp
          simp [List.isPrefixOf] at hp
          exact hn ⟨by rw [← hp.1]; rfl, by rw [← hp.2]; rfl⟩
        have e : Lib.index (b :: d :: r) [58, 58] = Lib.index (d :: r) [58, 58] + 1 := by
          rw [Lib.index, hp]
          rw [if_neg (by decide), if_neg (by simp; omega)]
        rw [e, show (Lib.index (d :: r) [58, 58] + 1).toNat = (Lib.index (d :: r) [58, 58]).toNat + 1 by omega]
        refine ⟨by omega, ?_, ?_⟩
        · rw [List.take_succ_cons, show bl (b :: (d :: r).take (Lib.index (d :: r) [58, 58]).toNat) = (b.toNat : Int) :: bl ((d :: r).take (Lib.index (d :: r) [58, 58]).toNat) from rfl, h2]
        · rw [show (Lib.index (d :: r) [58, 58]).toNat + 1 + 2 = (Lib.index (d :: r) [58, 58]).toNat + 2 + 1 by omega, List.drop_succ_cons, h3]
def cutV (s : ByteArray) : Value := match dblL (byteL s) with
  | none => .tuple #[.string s, .string ⟨#[]⟩, .bool false]
  | some p => .tuple #[.string (strOfNums p.1), .string (strOfNums p.2), .bool true]
theorem below_drewZ {w : World} (n : Nat) : Below w.heap.size w (w.drewN n) := ⟨rfl, rfl, rfl, Nat.le_refl _, fun _ _ => rfl⟩
theorem cutdbl_any (s : ByteArray) (w : World) (hs : s.size ≤ 4000000) (hm : GM w) : Calls Tryz.prog 124 #[.string s, .string ⟨#[58, 58]⟩] w fun e w' => e = .returned (cutV s) ∧ Below w.heap.size w w' := by
  obtain ⟨_, m, hm⟩ := hm
  refine (Tryz.strings_Cut s ⟨#[58, 58]⟩ m w (by omega) hm).mono fun e w' ⟨he, n, hw⟩ => ⟨?_, by rw [hw]; exact below_drewZ n⟩
  rw [he]
  unfold cutV Lib.cut
  cases hq : dblL (byteL s) with
  | none =>
    have h := dbl_none (l := s.data.toList) hq
    rw [show (⟨#[58, 58]⟩ : ByteArray).data.toList = [58, 58] from rfl, h, if_neg (by decide)]
  | some p =>
    obtain ⟨h1, h2, h3⟩ := dbl_some (l := s.data.toList) hq
    rw [show (⟨#[58, 58]⟩ : ByteArray).data.toList = [58, 58] from rfl, if_pos h1]
    dsimp only
    rw [mk_str h2, mk_str (l := s.data.toList.drop ((Lib.index s.data.toList [58, 58]).toNat + [58, 58].length)) h3]
theorem index_any1 (s : ByteArray) (c : UInt8) (w : World) : Calls Tryz.prog 146 #[.string s, .string ⟨#[c]⟩] w fun e w' => e = .returned (.int .i64 (if s.size ≤ skipTo (fun x => x != (c.toNat : Int)) (byteL s) 0 then -1 else (skipTo (fun x => x != (c.toNat : Int)) (byteL s) 0 : Int))) ∧ w = w' :=
  (Tryz.strings_Index_one s c w).mono fun e w' ⟨he, hw⟩ => ⟨by
    rw [he, indexByte_bl c s.data.toList, show (bl s.data.toList).length = s.size from byteL_len s]; rfl, hw.symm⟩
theorem indexAny_bl (st : List UInt8) : ∀ l : List UInt8, Lib.indexAny l st = if (bl l).length ≤ skipTo (fun x => !(bl st).contains x) (bl l) 0 then -1 else (skipTo (fun x => !(bl st).contains x) (bl l) 0 : Int)
  | [] => rfl
  | b :: l => by
    have ih := indexAny_bl st l
    have hb : bl (b :: l) = (b.toNat : Int) :: bl l := rfl
    have hc : (bl st).contains (b.toNat : Int) = st.contains b := by
      rw [Bool.eq_iff_iff, List.contains_iff_mem, List.contains_iff_mem]
      constructor
      · intro h
        obtain ⟨x, hx, he⟩ := List.mem_map.1 h
        have : x = b := UInt8.toNat_inj.1 (by omega)
        rw [← this]; exact hx
      · intro h
        exact List.mem_map.2 ⟨b, h, rfl⟩
    rw [Lib.indexAny, hb]
    unfold skipTo at ih ⊢
    rw [List.drop_zero] at ih ⊢
    rw [List.takeWhile_cons, hc]
    cases h : st.contains b with
    | true => simp
    | false =>
      simp only [Bool.false_eq_true, if_false, Bool.not_false, if_true]
      rw [List.length_cons, List.length_cons, ih]
      by_cases h2 : (bl l).length ≤ 0 + ((bl l).takeWhile fun x => !(bl st).contains x).length
      · rw [if_pos h2, if_pos (by rfl), if_pos (by omega)]
      · rw [if_neg h2, if_neg (by simp <;> omega), if_neg (by omega)]
        omega

theorem getD_mid (p : List Int) (c : Int) (r : List Int) : (p ++ c :: r).getD p.length 0 = c := by
  rw [List.getD_eq_getElem?_getD, List.getElem?_append_right (Nat.le_refl _), Nat.sub_self]; rfl
theorem getD_app (p z : List Int) (i : Nat) : (p ++ z).getD (p.length + i) 0 = z.getD i 0 := by
  rw [List.getD_eq_getElem?_getD, List.getD_eq_getElem?_getD, List.getElem?_append_right (Nat.le_add_right _ _), Nat.add_sub_cancel_left]
theorem clsL_mem {k c : Int} (h : (clsL k).contains c = true) : c ∈ ([38, 61, 43, 36, 44, 59, 63, 47, 91, 93, 58] : List Int) := by
  rw [List.contains_iff_mem] at h
  unfold clsL at h
  split at h
  · simp at h ⊢; omega
  · split at h
    · simp at h ⊢; omega
    · split at h
      · simp at h ⊢; omega
      · cases h
theorem inC_is {k c : Int} (h : inC k c = true) : isLet c = true ∨ isDig c = true ∨ c ∈ ([45, 95, 46, 33, 126, 42, 39, 40, 41] : List Int) ∨ c ∈ clsL k := by
  unfold inC at h
  rw [Bool.or_eq_true, Bool.or_eq_true, Bool.or_eq_true] at h
  rcases h with (h | h | h) | h
  · exact .inl h
  · exact .inr (.inl h)
  · exact .inr (.inr (.inl (List.contains_iff_mem.1 h)))
  · exact .inr (.inr (.inr (List.contains_iff_mem.1 h)))
theorem inC_range {k c : Int} (h : inC k c = true) : 33 ≤ c ∧ c ≤ 126 ∧ c ≠ 37 ∧ c ≠ 34 ∧ c ≠ 60 ∧ c ≠ 62 ∧ c ≠ 64 := by
  rcases inC_is h with h | h | h | h
  · unfold isLet at h; simp at h; omega
  · unfold isDig at h; simp at h; omega
  · simp at h; omega
  · have := clsL_mem (List.contains_iff_mem.2 h)
    simp at this; omega
theorem inC_ctl {k c : Int} (h : inC k c = true) : isCtl c = false := by
  have := inC_range h
  unfold isCtl
  simp; omega
theorem wrongN_end {xs : List Int} {k : Int} {f i : Nat} (h : xs.length ≤ i) : wrongN xs k f i = none := by
  cases f with
  | zero => rfl
  | succ f => unfold wrongN; rw [if_pos h]
theorem wrongN_step (xs : List Int) (k : Int) (f i : Nat) : wrongN xs k (f + 1) i = if xs.length ≤ i then none
    else if inC k (xs.getD i 0) = true then wrongN xs k f (i + 1)
    else if escAt xs i < 0 ∨ isCtl (escAt xs i) = true then some i
    else wrongN xs k f (i + 3) := rfl
theorem escAt_app (p z : List Int) (i : Nat) : escAt (p ++ z) (p.length + i) = escAt z i := by
  unfold escAt
  rw [getD_app, show p.length + i + 1 = p.length + (i + 1) from rfl, show p.length + i + 2 = p.length + (i + 2) from rfl, getD_app, getD_app, List.length_append]
  by_cases h : z.length ≤ i + 2
  · rw [if_pos (.inl (by omega)), if_pos (.inl h)]
  · simp only [h, show ¬ p.length + z.length ≤ p.length + (i + 2) by omega, false_or]
theorem wrongN_app (p z : List Int) (k : Int) : ∀ (f i : Nat), wrongN (p ++ z) k f (p.length + i) = (wrongN z k f i).map (p.length + ·)
  | 0, i => rfl
  | f + 1, i => by
    rw [wrongN_step, wrongN_step, getD_app, escAt_app, List.length_append]
    by_cases h : z.length ≤ i
    · rw [if_pos (by omega), if_pos h]; rfl
    · rw [if_neg (by omega), if_neg h]
      have h1 := wrongN_app p z k f (i + 1)
      have h3 := wrongN_app p z k f (i + 3)
      split
      · rw [← h1]; rfl
      · split
        · rfl
        · rw [← h3]; rfl
theorem wrongN_fuel (z : List Int) (k : Int) : ∀ (f g i : Nat), z.length + 1 ≤ f + i → z.length + 1 ≤ g + i → wrongN z k f i = wrongN z k g i
  | 0, g, i, hf, hg => by rw [wrongN_end (by omega), wrongN_end (by omega)]
  | f + 1, 0, i, hf, hg => by rw [wrongN_end (by omega), wrongN_end (by omega)]
  | f + 1, g + 1, i, hf, hg => by
    rw [wrongN_step, wrongN_step]
    have h1 := wrongN_fuel z k f g (i + 1) (by omega) (by omega)
    have h3 := wrongN_fuel z k f g (i + 3) (by omega) (by omega)
    rw [h1, h3]
theorem wrongL_app (p z : List Int) (k : Int) : wrongL (p ++ z) k p.length = (wrongL z k 0).map (p.length + ·) := by
  unfold wrongL
  rw [← wrongN_app p z k, Nat.add_zero]
  exact wrongN_fuel _ _ _ _ _ (by omega) (by rw [List.length_append]; omega)
theorem wrong_cont {z : List Int} {k : Int} (hz : By z) : ∀ (f g i : Nat) (acc : List Int), z.length + 1 ≤ f + i → z.length + 1 ≤ g + i → wrongN z k f i = none →
    ∃ o, unescN z g i acc = (acc ++ o, 0, 0) ∧ By o ∧ clean o = true ∧ (o = [] ↔ z.length ≤ i) ∧ o.length ≤ z.length - i
  | f, g, i, acc, hf, hg, hw => by
    by_cases hi : z.length ≤ i
    · refine ⟨[], ?_, (fun x hx => by cases hx), rfl, ⟨fun _ => hi, fun _ => rfl⟩, Nat.zero_le _⟩
      rw [List.append_nil]
      cases g with
      | zero => rfl
      | succ g => exact unescN_end hi
    · obtain ⟨f, rfl⟩ : ∃ g, f = g + 1 := ⟨f - 1, by omega⟩
      obtain ⟨g, rfl⟩ : ∃ h, g = h + 1 := ⟨g - 1, by omega⟩
      rw [wrongN_step, if_neg hi] at hw
      by_cases hc : inC k (z.getD i 0) = true
      · rw [if_pos hc] at hw
        obtain ⟨o, h1, h2, h3, h4, h5⟩ := wrong_cont hz f g (i + 1) (acc ++ [z.getD i 0]) (by omega) (by omega) hw
        refine ⟨z.getD i 0 :: o, ?_, ?_, ?_, ⟨(fun h => by cases h), fun h => absurd h hi⟩, by rw [List.length_cons]; omega⟩
        · rw [unescN_plain (by omega) (inC_range hc).2.2.1, h1]; simp
        · intro x hx
          rcases List.mem_cons.1 hx with rfl | hx
          · exact hz _ (getD_mem (by omega))
          · exact h2 x hx
        · unfold clean at h3 ⊢
          rw [List.all_cons, h3, inC_ctl hc]; rfl
      · rw [if_neg hc] at hw
        by_cases he : escAt z i < 0 ∨ isCtl (escAt z i) = true
        · rw [if_pos he] at hw; cases hw
        · rw [if_neg he] at hw
          have hne : ¬ escAt z i < 0 := fun h => he (.inl h)
          have hct : isCtl (escAt z i) = false := by cases h : isCtl (escAt z i) with
            | false => rfl
            | true => exact absurd (.inr h) he
          have h37 : z.getD i 0 = 37 := by
            unfold escAt at hne
            split at hne
            · omega
            · rename_i h; simp at h; simpa using h.2.1
          have hl : i + 2 < z.length := by
            unfold escAt at hne
            split at hne
            · omega
            · rename_i h; simp at h; omega
          obtain ⟨o, h1, h2, h3, h4, h5⟩ := wrong_cont hz f g (i + 3) (acc ++ [escAt z i]) (by omega) (by omega) hw
          refine ⟨escAt z i :: o, ?_, ?_, ?_, ⟨(fun h => by cases h), fun h => absurd h hi⟩, by rw [List.length_cons]; omega⟩
          · rw [unescN_esc (by omega) h37 hne, h1]; simp
          · intro x hx
            rcases List.mem_cons.1 hx with rfl | hx
            · have := escAt_range z i; omega
            · exact h2 x hx
          · unfold clean at h3 ⊢
            rw [List.all_cons, h3, hct]; rfl
theorem contL_ok {z : List Int} {k : Int} (hz : By z) (h : wrongL z k 0 = none) : By (contL z) ∧ clean (contL z) = true ∧ (contL z = [] ↔ z = []) ∧ (contL z).length ≤ z.length := by
  obtain ⟨o, h1, h2, h3, h4, h5⟩ := wrong_cont hz (z.length + 1) (z.length + 1) 0 [] (by omega) (by omega) h
  have e : contL z = o := by unfold contL unescL; rw [h1]; rfl
  rw [e]
  refine ⟨h2, h3, h4.trans ?_, by omega⟩
  constructor
  · intro h; exact List.eq_nil_of_length_eq_zero (by omega)
  · rintro rfl; simp
theorem wrongN_le {z : List Int} {k : Int} : ∀ (f i : Nat) {j : Nat}, wrongN z k f i = some j → i ≤ j ∧ j < z.length
  | 0, i, j, h => by cases h
  | f + 1, i, j, h => by
    rw [wrongN_step] at h
    split at h
    · cases h
    · split at h
      · have := wrongN_le f (i + 1) h; omega
      · split at h
        · injection h with h; subst h; omega
        · have := wrongN_le f (i + 3) h; omega
end Go.Proofs.YthfonniieaiocaaGreatDoor
