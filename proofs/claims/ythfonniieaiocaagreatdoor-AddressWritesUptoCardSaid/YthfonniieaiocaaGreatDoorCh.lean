/- Contracts: auth's lower, the reference 02's Lower. And what stands behind it. -/
import Derived.Test.YthfonniieaiocaaGreatDoorCc
import Derived.Test.YthfonniieaiocaaGreatDoorCa
import Derived.Laws.IdiomStrings
import Derived.Shelf.Strings.Builder1
import Derived.Shelf.Strings.Builder2
import Derived.Shelf.Strings.OnBuilder
import Derived.Shelf.Strings.Trim
import Derived.Shelf.Small.Utf8
import Derived.Shelf.Small.Strs
import Derived.Shelf.Small.Wraps
import Derived.Shelf.Strings.BuilderF
import Derived.Shelf.Strings.BuilderK
import Derived.Shelf.Strings.Builder2Cap
import Derived.Shelf.Strconv.Itoa0
import Derived.Shelf.Strconv.Itoa1
import Derived.Shelf.LaysM
import Derived.Shelf.Strconv.Itoa2
import Derived.Shelf.Strconv.Itoa3
import Derived.Shelf.Strings.Search1
import Derived.Shelf.Strings.Search2
import Derived.Shelf.Strings.Search3
import Derived.Shelf.Strings.Cut
import Derived.Shelf.Strings.Count
import Derived.Shelf.Strings.Shaped
import Derived.Shelf.Strings.Prefix
import Derived.Shelf.Strings.Split
import Derived.Shelf.Strings.SplitShaped
import Derived.Shelf.Unicode.Decode
import Derived.Shelf.Strings.Runes
import Derived.Shelf.Strings.RuneCount
import Derived.Shelf.Strings.IndexAny
import Derived.Shelf.Strings.AsciiSet
import Derived.Shelf.Strings.IndexAnyAll
import Derived.Shelf.Strings.Explode
import Derived.Shelf.Unicode.DecodeSlow
import Derived.Shelf.Unicode.DecodeAny
import Derived.Shelf.Strings.BuilderCap
import Derived.Test.YthfonniieaiocaaGreatDoorProg
import Derived.Shelf.Strings.SlTrimAscii
set_option linter.unusedVariables false
set_option linter.unusedSimpArgs false
set_option maxRecDepth 100000
namespace Go.Proofs.YthfonniieaiocaaGreatDoor
open Go.RowKit

structure BR (w : World) (b : Nat) (xs : List Int) : Prop where
  lt : b < w.heap.size
  c : ∀ j x, xs[j]? = some x → w.cell? ⟨b, j, none⟩ = some (.int .u8 x)
  f : ∀ j, j < xs.length → w.frozen? ⟨b, j, none⟩ = false
theorem BR.below {w w' : World} {b : Nat} {xs : List Int} (h : BR w b xs) {B : Nat} (hb : Below B w w') (hB : b < B) : BR w' b xs :=
  ⟨Nat.lt_of_lt_of_le h.lt (by have := hb.size; omega), fun j x hx => (hb.cell (p := ⟨b, j, none⟩) hB).trans (h.c j x hx), fun j hj => (hb.frozen (p := ⟨b, j, none⟩) hB).trans (h.f j hj)⟩
theorem BR.set {w : World} {b : Nat} {xs : List Int} (h : BR w b xs) {i : Nat} (hi : i < xs.length) (y : Int) : BR (w.setCell ⟨b, i, none⟩ (.int .u8 y)) b (xs.set i y) := by
  have h0 := h.c i _ (getD_some hi)
  refine ⟨by simpa [World.setCell] using h.lt, fun j x hx => ?_, fun j hj => ?_⟩
  · by_cases e : i = j
    · subst e
      rw [List.getElem?_set_self hi] at hx
      cases hx
      exact World.cell?_setCell_same _ _ _ h0
    · rw [List.getElem?_set_ne e] at hx
      rw [World.cell?_setCell_other _ _ _ _ (by intro h1; injection h1; contradiction)]
      exact h.c j x hx
  · rw [World.frozen?_setCell]
    exact h.f j (by simpa using hj)
theorem BR.bs {w : World} {b : Nat} {xs : List Int} (h : BR w b xs) : Bs w w.heap.size (some ⟨b, 0, none⟩) xs := fun _ => ⟨_, rfl, h.lt, fun j x hx => by
  rw [Addr.add_mid, Nat.zero_add]
  exact h.c j x hx⟩
theorem BR.conv {w : World} {b : Nat} {xs : List Int} (h : BR w b xs) (n cap : Nat) (hn : xs.length = n) : (convert 69 9 (.slice (some ⟨b, 0, none⟩) n cap)).run Tryz.prog w = .ok (.string (strOfNums xs)) w :=
  run_convert_bytes_arg (P := Tryz.prog) w 69 5 Tryz.underlying69 Tryz.underlying5 b 0 n cap xs hn (fun j hj => by
    rw [Nat.zero_add]
    exact h.c j _ (getD_some (by omega))) 9 Tryz.underlying9
theorem wpList_bytesW {ops : Array Oper} {rest : List Oper} {op : Oper} {a : Act} {w : World} {Q : Exit → Act → World → Prop} (hgd : op.guard = none) (x : Operand) (ho : op.op = .convert 9 69 x) (s : ByteArray) (hx : a.eval x = .string s)
    (h : ∀ cap w', s.size ≤ cap → Hid (BR w' w.heap.size (byteL s)) → Hid (Below w.heap.size w w') → wpList Tryz.prog ops Q rest (a.put op.dst (.slice (some ⟨w.heap.size, 0, none⟩) s.size cap)) w') : wpList Tryz.prog ops Q (op :: rest) a w := by
  have hr := run_bytes_of_string (P := Tryz.prog) w 9 69 5 s Tryz.underlying9 Tryz.underlying69 Tryz.underlying5
  have hge := grownCap_ge w s.size 0 5
  generalize grownCap w s.size 0 5 = cap at *
  refine wpList_value hgd _ (w.drew.alloc (Obj.cells (bytesRow s cap) 5 ((bytesRow s cap).size, (bytesRow s cap).size + 1))) ?_ (h cap _ hge (kd ⟨by simp [World.size_alloc], fun j u hu => ?_, fun j hj => ?_⟩) (kd ?_))
  · unfold execOp
    simp only [ho, hx, Sem.run_bind, hr, Result.andThen_ok, Sem.run_pure]
  · refine (World.cell?_alloc_mark w.drew _ 5 _ j).trans ?_
    have hj : j < (byteL s).length := (List.getElem?_eq_some_iff.1 hu).1
    rw [byteL_len] at hj
    unfold bytesRow
    rw [Array.getElem?_append_left (by simpa using hj)]
    unfold byteL at hu
    simp at hu ⊢
    obtain ⟨c, hc, rfl⟩ := hu
    exact ⟨c, hc, rfl⟩
  · refine (World.frozen?_alloc_mark w.drew _ 5 _ _ j).trans ?_
    rw [byteL_len] at hj
    have hz : (bytesRow s cap).size = cap := by
      unfold bytesRow
      rw [Array.size_append, Array.size_map, Array.size_replicate]
      show s.size + (cap - s.size) = cap
      omega
    rw [hz, decide_eq_false (by omega)]
    rfl
  · exact ((Below.refl w.heap.size w).drew).alloc (Nat.le_refl _) _
def lowK (xs : List Int) (k : Nat) : List Int := lowS (xs.take k) ++ xs.drop k
theorem lowK_len (xs : List Int) (k : Nat) : (lowK xs k).length = xs.length := by
  unfold lowK; rw [List.length_append, lowS_len, List.length_take, List.length_drop]; omega
theorem lowK_all {xs : List Int} {k : Nat} (h : xs.length ≤ k) : lowK xs k = lowS xs := by
  unfold lowK; rw [List.take_of_length_le h, List.drop_of_length_le h, List.append_nil]
theorem lowK_at {xs : List Int} {k : Nat} (h : k < xs.length) : (lowK xs k)[k]? = some (xs.getD k 0) := by
  unfold lowK
  rw [List.getElem?_append_right (by rw [lowS_len, List.length_take]; omega), lowS_len, List.length_take, show k - min k xs.length = 0 by omega, drop_consI xs h]
  rfl
theorem lowK_set {xs : List Int} {k : Nat} (h : k < xs.length) : (lowK xs k).set k (lowC (xs.getD k 0)) = lowK xs (k + 1) := by
  unfold lowK
  rw [List.set_append_right _ _ (by rw [lowS_len, List.length_take]; omega), lowS_len, List.length_take, show k - min k xs.length = 0 by omega, drop_consI xs h, List.set_cons_zero, take_snocI xs h]
  unfold lowS
  simp
theorem lowK_same {xs : List Int} {k : Nat} (h : k < xs.length) (hc : lowC (xs.getD k 0) = xs.getD k 0) : lowK xs k = lowK xs (k + 1) := by
  rw [← lowK_set h, hc]
  have h1 := lowK_at h
  obtain ⟨h2, h3⟩ := List.getElem?_eq_some_iff.1 h1
  rw [← h3]
  exact (List.set_getElem_self h2).symm
def LWR (w w0 : World) (xs : List Int) (v : Value) (wr : World) : Prop := ∃ k : Nat, k ≤ xs.length ∧ v = .int .i64 k ∧ Hid (BR wr w.heap.size (lowK xs k) ∧ Below w.heap.size w wr)
theorem reflower_any (s : ByteArray) (w : World) (hM : s.size ≤ 4000000) :
    Calls Tryz.prog 65 #[.string s] w fun e w' => e = .returned (.string (strOfNums (lowS (byteL s)))) ∧ Below w.heap.size w w' := by
  have HB := kd (byteL_by s)
  have HL := kd (byteL_len s)
  go_enter Tryz.func65, Tryz.ntmps65
  go_wp2_with (with_reducible refine wpList_bytesW rfl _ rfl s rfl ?_)
  intro cap w1 hcap R1 B1
  generalize hX : byteL s = X at *
  have HX := kd hX
  clear hX
  go_wp2_with fail
  go_loopw [4] (fun v wr => LWR w w1 X v wr) (fun v _ => s.size - (intOf v).toNat)
  case atStart => exact ⟨0, Nat.zero_le _, rfl, kd ⟨R1.out, B1.out⟩⟩
  case round =>
    obtain ⟨k, hk, rfl, H⟩ := hrel
    rw [HL.out] at hk
    by_cases hlt : k < s.size
    · have hlt' : k < X.length := by rw [HL.out]; exact hlt
      have hd : decide (k < s.size) = true := by simp; omega
      have hcell := H.out.1.c k _ (lowK_at hlt')
      have hfz := H.out.1.f k (by rw [lowK_len]; exact hlt')
      have hx2 := HB.out _ (getD_mem hlt')
      have LS := kd (fun hc => lowK_same (xs := X) (k := k) hlt' hc)
      have ST := kd (show lowC (X.getD k 0) = X.getD k 0 + 32 → BR (wr.setCell ⟨w.heap.size, k, none⟩ (.int .u8 (X.getD k 0 + 32))) w.heap.size (lowK X (k + 1)) from fun hc => by
        rw [← lowK_set hlt', hc]
        exact H.out.1.set (by rw [lowK_len]; exact hlt') _)
      clear hlt'
      generalize X.getD k 0 = x at *
      have x0 := hx2.1
      have x1 := hx2.2
      clear hx2
      by_cases hr : 65 ≤ x ∧ x ≤ 90
      · have d1 : decide (65 ≤ x) = true := by simp [hr.1]
        have d2 : decide (x ≤ 90) = true := by simp [hr.2]
        have S1 := kd (ST.out (if_pos hr))
        have h65 := hr.1
        have h90 := hr.2
        clear hr
        go_wp2_with fail
        go_roundw
        case rel => exact ⟨k + 1, by rw [HL.out]; omega, by go_num, kd ⟨S1.out, H.out.2.setCell (Nat.le_refl _) _⟩⟩
        case measure => simp [intOf]; omega
      · have E := kd (LS.out (if_neg hr))
        have d0 : decide (65 ≤ x) = false ∨ (decide (65 ≤ x) = true ∧ decide (x ≤ 90) = false) := by simp; omega
        clear hr
        rcases d0 with d1 | ⟨d1, d2⟩
        all_goals
          go_wp2_with fail
          go_roundw
          case rel => exact ⟨k + 1, by rw [HL.out]; omega, by go_num, kd ⟨by rw [← E.out]; exact H.out.1, H.out.2⟩⟩
          case measure => simp [intOf]; omega
    · obtain rfl : k = s.size := by omega
      have HR := H.out.1
      rw [lowK_all (by rw [HL.out]; exact Nat.le_refl _)] at HR
      have cv := HR.conv s.size cap (by rw [lowS_len]; exact HL.out)
      clear HR
      go_wp2_with fail
      go_ret
      exact ⟨by rw [HX.out]; rfl, H.out.2⟩
end Go.Proofs.YthfonniieaiocaaGreatDoor
namespace Go.Proofs
open Go.Shelf
def Tryz.lays156_ren : Go.Shelf.Ren := ⟨fun | 156 => 126 | 165 => 162 | 166 => 90 | 169 => 93 | 240 => 150 | 241 => 188 | 276 => 180 | 277 => 205 | n => n, fun | 31 => 75 | 9 => 9 | 3 => 3 | 4 => 4 | 0 => 0 | 20 => 20 | 72 => 107 | 76 => 110 | 70 => 105 | 37 => 69 | 75 => 109 | 127 => 148 | 164 => 168 | 5 => 5 | 80 => 95 | n => n, fun | n => n⟩
theorem Tryz.lays156 : Go.Proofs.Lays.n156 Tryz.prog Tryz.lays156_ren := {
  mixed := by kernel_rfl
  f156 := Tryz.func126.trans (congrArg some (by kernel_rfl))
  f165 := Tryz.func162.trans (congrArg some (by kernel_rfl))
  f166 := Tryz.func90.trans (congrArg some (by kernel_rfl))
  f169 := Tryz.func93.trans (congrArg some (by kernel_rfl))
  f240 := Tryz.func150.trans (congrArg some (by kernel_rfl))
  f241 := Tryz.func188.trans (congrArg some (by kernel_rfl))
  f276 := Tryz.func180.trans (congrArg some (by kernel_rfl))
  f277 := Tryz.func205.trans (congrArg some (by kernel_rfl))
  t0 := Tryz.underlying0
  a0 := Tryz.isAgg0
  z0 := Tryz.sizeOf0
  v0 := Tryz.zeroValue0
  t3 := Tryz.underlying3
  a3 := Tryz.isAgg3
  z3 := Tryz.sizeOf3
  v3 := Tryz.zeroValue3
  t4 := Tryz.underlying4
  a4 := Tryz.isAgg4
  z4 := Tryz.sizeOf4
  v4 := Tryz.zeroValue4
  t9 := Tryz.underlying9
  a9 := Tryz.isAgg9
  z9 := Tryz.sizeOf9
  v9 := Tryz.zeroValue9
  t20 := Tryz.underlying20
  a20 := Tryz.isAgg20
  z20 := Tryz.sizeOf20
  v20 := Tryz.zeroValue20
  t31 := Tryz.underlying75
  a31 := Tryz.isAgg75
  z31 := Tryz.sizeOf75
  v31 := Tryz.zeroValue75
  t37 := Tryz.underlying69
  a37 := Tryz.isAgg69
  z37 := Tryz.sizeOf69
  v37 := Tryz.zeroValue69
  t70 := Tryz.underlying105
  a70 := Tryz.isAgg105
  z70 := Tryz.sizeOf105
  v70 := Tryz.zeroValue105
  t72 := Tryz.underlying107
  a72 := Tryz.isAgg107
  z72 := Tryz.sizeOf107
  v72 := Tryz.zeroValue107
  t75 := Tryz.underlying109
  a75 := Tryz.isAgg109
  z75 := Tryz.sizeOf109
  v75 := Tryz.zeroValue109
  t76 := Tryz.underlying110
  a76 := Tryz.isAgg110
  z76 := Tryz.sizeOf110
  v76 := Tryz.zeroValue110
  t127 := Tryz.underlying148
  a127 := Tryz.isAgg148
  z127 := Tryz.sizeOf148
  v127 := Tryz.zeroValue148
  t164 := Tryz.underlying168
  a164 := Tryz.isAgg168
  z164 := Tryz.sizeOf168
  v164 := Tryz.zeroValue168 }
theorem Tryz.Builder_Extra_156 : Builder.Extra Tryz.prog Tryz.lays156_ren := {
  sizeBuilder := by kernel_rfl
  liesBuilder := by kernel_rfl
  t5 := Tryz.underlying5
  a5 := Tryz.isAgg5
  z5 := Tryz.sizeOf5
  v5 := Tryz.zeroValue5
  infoByte := by kernel_rfl
  cellsByte := by kernel_rfl
  sizeByte := by kernel_rfl
  neB5 := by decide }
open Go.RowKit in
theorem Tryz.strings_Join_none (a : Option Addr) (c : Nat) (sep : ByteArray) (w : World) :
    Calls Tryz.prog 126 #[.slice a 0 c, .string sep] w fun e w' => e = .returned (.string ⟨#[]⟩) ∧ w' = w := Any.strings_Join_none Tryz.lays156 Tryz.Builder_Extra_156 a c sep w
open Go.RowKit in
theorem Tryz.strings_Join (bk o c : Nat) (xs : List ByteArray) (sep : ByteArray) (w : World) (hcells : ∀ (j : Nat) x, xs[j]? = some x → w.cell? ⟨bk, o + j, none⟩ = some (.string x)) (hbk : bk < w.heap.size) (hN : xs.length ≤ 140737488355328) (hcap : xs.length ≤ c) (hlen : (Lib.join (xs.map (·.data.toList)) sep.data.toList).length ≤ 140737488355328) :
    Calls Tryz.prog 126 #[.slice (some ⟨bk, o, none⟩) xs.length c, .string sep] w fun e w' => e = .returned (.string ⟨(Lib.join (xs.map (·.data.toList)) sep.data.toList).toArray⟩) ∧ Below w.heap.size w w' := Any.strings_Join Tryz.lays156 Tryz.Builder_Extra_156 bk o c xs sep w hcells hbk hN hcap hlen
def Tryz.lays137_ren : Go.Shelf.Ren := ⟨fun | 137 => 66 | 217 => 130 | 266 => 166 | n => n, fun | 9 => 9 | 5 => 5 | 3 => 3 | n => n, fun | n => n⟩
theorem Tryz.lays137 : Go.Proofs.Lays.n137 Tryz.prog Tryz.lays137_ren := {
  mixed := by kernel_rfl
  f137 := Tryz.func66.trans (congrArg some (by kernel_rfl))
  f217 := Tryz.func130.trans (congrArg some (by kernel_rfl))
  f266 := Tryz.func166.trans (congrArg some (by kernel_rfl))
  t3 := Tryz.underlying3
  a3 := Tryz.isAgg3
  z3 := Tryz.sizeOf3
  v3 := Tryz.zeroValue3
  t5 := Tryz.underlying5
  a5 := Tryz.isAgg5
  z5 := Tryz.sizeOf5
  v5 := Tryz.zeroValue5
  t9 := Tryz.underlying9
  a9 := Tryz.isAgg9
  z9 := Tryz.sizeOf9
  v9 := Tryz.zeroValue9 }
open Go.RowKit in
theorem Tryz.strings_IndexByte (s : ByteArray) (c : Int) (w : World) :
    Calls Tryz.prog 66 #[.string s, .int .u8 c] w fun e w' => e = .returned (.int .i64 (Lib.indexByte s.data.toList c.toNat.toUInt8)) ∧ w' = w := Any.strings_IndexByte Tryz.lays137 s c w
def Tryz.lays146_ren : Go.Shelf.Ren := ⟨fun | 146 => 127 | 221 => 163 | 268 => 189 | 138 => 190 | 143 => 146 | 195 => 206 | 197 => 192 | 218 => 207 | 219 => 177 | 260 => 208 | 217 => 130 | 225 => 196 | 224 => 195 | 267 => 199 | 266 => 166 | 314 => 210 | n => n, fun | 9 => 9 | 31 => 75 | 3 => 3 | 4 => 4 | 0 => 0 | 105 => 176 | 21 => 21 | 5 => 5 | 46 => 70 | 119 => 197 | 139 => 200 | 138 => 199 | 146 => 191 | 51 => 190 | n => n, fun | 1 => 1 | 3 => 3 | 4 => 4 | n => n⟩
theorem Tryz.lays146 : Go.Proofs.Lays.n146 Tryz.prog Tryz.lays146_ren := {
  mixed := by kernel_rfl
  f138 := Tryz.func190.trans (congrArg some (by kernel_rfl))
  f143 := Tryz.func146.trans (congrArg some (by kernel_rfl))
  f146 := Tryz.func127.trans (congrArg some (by kernel_rfl))
  f195 := Tryz.func206.trans (congrArg some (by kernel_rfl))
  f197 := Tryz.func192.trans (congrArg some (by kernel_rfl))
  f217 := Tryz.func130.trans (congrArg some (by kernel_rfl))
  f218 := Tryz.func207.trans (congrArg some (by kernel_rfl))
  f219 := Tryz.func177.trans (congrArg some (by kernel_rfl))
  f221 := Tryz.func163.trans (congrArg some (by kernel_rfl))
  f224 := Tryz.func195.trans (congrArg some (by kernel_rfl))
  f225 := Tryz.func196.trans (congrArg some (by kernel_rfl))
  f260 := Tryz.func208.trans (congrArg some (by kernel_rfl))
  f266 := Tryz.func166.trans (congrArg some (by kernel_rfl))
  f267 := Tryz.func199.trans (congrArg some (by kernel_rfl))
  f268 := Tryz.func189.trans (congrArg some (by kernel_rfl))
  f314 := Tryz.func210.trans (congrArg some (by kernel_rfl))
  t0 := Tryz.underlying0
  a0 := Tryz.isAgg0
  z0 := Tryz.sizeOf0
  v0 := Tryz.zeroValue0
  t3 := Tryz.underlying3
  a3 := Tryz.isAgg3
  z3 := Tryz.sizeOf3
  v3 := Tryz.zeroValue3
  t4 := Tryz.underlying4
  a4 := Tryz.isAgg4
  z4 := Tryz.sizeOf4
  v4 := Tryz.zeroValue4
  t5 := Tryz.underlying5
  a5 := Tryz.isAgg5
  z5 := Tryz.sizeOf5
  v5 := Tryz.zeroValue5
  t9 := Tryz.underlying9
  a9 := Tryz.isAgg9
  z9 := Tryz.sizeOf9
  v9 := Tryz.zeroValue9
  t21 := Tryz.underlying21
  a21 := Tryz.isAgg21
  z21 := Tryz.sizeOf21
  v21 := Tryz.zeroValue21
  t31 := Tryz.underlying75
  a31 := Tryz.isAgg75
  z31 := Tryz.sizeOf75
  v31 := Tryz.zeroValue75
  t46 := Tryz.underlying70
  a46 := Tryz.isAgg70
  z46 := Tryz.sizeOf70
  v46 := Tryz.zeroValue70
  t51 := Tryz.underlying190
  a51 := Tryz.isAgg190
  z51 := Tryz.sizeOf190
  v51 := Tryz.zeroValue190
  t105 := Tryz.underlying176
  a105 := Tryz.isAgg176
  z105 := Tryz.sizeOf176
  v105 := Tryz.zeroValue176
  t119 := Tryz.underlying197
  a119 := Tryz.isAgg197
  z119 := Tryz.sizeOf197
  t138 := Tryz.underlying199
  a138 := Tryz.isAgg199
  z138 := Tryz.sizeOf199
  v138 := Tryz.zeroValue199
  t139 := Tryz.underlying200
  a139 := Tryz.isAgg200
  z139 := Tryz.sizeOf200
  v139 := Tryz.zeroValue200
  t146 := Tryz.underlying191
  a146 := Tryz.isAgg191
  z146 := Tryz.sizeOf191
  v146 := Tryz.zeroValue191
  g1 := by kernel_rfl
  g3 := by kernel_rfl
  g4 := by kernel_rfl }
open Go.RowKit Go.Lib in
theorem Tryz.strings_Split (s sep : ByteArray) (m : Int) (w : World) (hs : s.size < 4294967281) (hm : w.cell? ⟨1, 0, none⟩ = some (.int .i64 m)) (h1 : 1 ≤ sep.size) :
    Calls Tryz.prog 127 #[.string s, .string sep] w fun e w' =>
      e = .returned (.slice (some ⟨w.heap.size, 0, none⟩) (Lib.countB s sep + 1) (Lib.countB s sep + 1)) ∧ w' = w.alloc (.cells ((Lib.splitB sep 0 (Lib.countB s sep) s).map Value.string).toArray 9) := Any.strings_Split Tryz.lays146 (by kernel_rfl) s sep m w hs hm h1
end Go.Proofs
namespace Go.Proofs.YthfonniieaiocaaGreatDoor
open Go.RowKit

theorem mk_str {l : List UInt8} {r : List Int} (h : bl l = r) : (⟨l.toArray⟩ : ByteArray) = strOfNums r := by
  have hb : By r := h ▸ bl_by l
  apply byteL_inj
  rw [byteL_str hb, byteL_mk, h]
def GM (w : World) : Prop := 1 < w.heap.size ∧ ∃ m : Int, w.cell? ⟨1, 0, none⟩ = some (.int .i64 m)
theorem GM.below {w w' : World} (h : GM w) (hb : Below w.heap.size w w') : GM w' := by
  obtain ⟨h0, m, hm⟩ := h
  exact ⟨Nat.lt_of_lt_of_le h0 hb.size, m, (hb.cell (p := ⟨1, 0, none⟩) h0).trans hm⟩
def SplitP (xs : List Int) (c : Int) (w : World) (e : Ending) (w' : World) : Prop := ∃ zs : List ByteArray, zs.map byteL = cutL c xs ∧ e = .returned (.slice (some ⟨w.heap.size, 0, none⟩) zs.length zs.length) ∧ w' = w.alloc (.cells (zs.map Value.string).toArray 9)
theorem split_any (s : ByteArray) (c : UInt8) (w : World) (hs : s.size ≤ 4000000) (hm : GM w) : Calls Tryz.prog 127 #[.string s, .string ⟨#[c]⟩] w (SplitP (byteL s) c.toNat w) := by
  obtain ⟨_, m, hm⟩ := hm
  refine (Tryz.strings_Split s ⟨#[c]⟩ m w (by omega) hm (Nat.le_refl 1)).mono fun e w' ⟨he, hw⟩ => ⟨_, splitB_cut s c, ?_, hw⟩
  rw [he, Lib.splitB_all ⟨#[c]⟩ (Nat.le_refl 1) 0 _ s rfl]
theorem indexByte_bl (c : UInt8) : ∀ l : List UInt8, Lib.indexByte l c = if (bl l).length ≤ skipTo (fun x => x != (c.toNat : Int)) (bl l) 0 then -1 else (skipTo (fun x => x != (c.toNat : Int)) (bl l) 0 : Int)
  | [] => rfl
  | b :: l => by
    have ih := indexByte_bl c l
    have hb : bl (b :: l) = (b.toNat : Int) :: bl l := rfl
    rw [Lib.indexByte, hb]
    unfold skipTo at ih ⊢
    rw [List.drop_zero] at ih ⊢
    rw [List.takeWhile_cons]
    by_cases h : b = c
    · subst h
      simp
    · have hne : ((b.toNat : Int) != (c.toNat : Int)) = true := by
        rw [bne_iff_ne]
        exact fun e => h (UInt8.toNat_inj.1 (by omega))
      rw [if_neg (by simpa using h), if_pos hne, List.length_cons, List.length_cons, ih]
      by_cases h2 : (bl l).length ≤ 0 + ((bl l).takeWhile fun x => x != (c.toNat : Int)).length
      · rw [if_pos h2, if_pos (by rfl), if_pos (by omega)]
      · rw [if_neg h2, if_neg (by simp <;> omega), if_neg (by omega)]
        omega
theorem indexbyte_any (s : ByteArray) (c : UInt8) (w : World) : Calls Tryz.prog 66 #[.string s, .int .u8 (c.toNat : Int)] w fun e w' => e = .returned (.int .i64 (if s.size ≤ skipTo (fun x => x != (c.toNat : Int)) (byteL s) 0 then -1 else (skipTo (fun x => x != (c.toNat : Int)) (byteL s) 0 : Int))) ∧ w = w' :=
  (Tryz.strings_IndexByte s (c.toNat : Int) w).mono fun e w' ⟨he, hw⟩ => ⟨by
    rw [he]
    have h := indexByte_bl c s.data.toList
    rw [show (bl s.data.toList).length = s.size from byteL_len s] at h
    have hc : ((c.toNat : Int)).toNat.toUInt8 = c := Lib.byte_back c
    first | (rw [hc, h]; rfl) | (rw [h]; rfl) | (simp only [hc]; rw [h]; rfl), hw.symm⟩
structure SX (w : World) (v : Value) (zs : List ByteArray) (wr : World) : Prop where
  o : wr.ownsRow w.heap.size 9 1 v zs.length (zs.map Value.string)
  bw : Below w.heap.size w wr
theorem owns_form {w : World} {base : Nat} {e : TypeId} {v : Value} {n : Nat} {xs : List Value} (h : w.ownsRow base e 1 v n xs) : (v = .slice none 0 0 ∧ xs = []) ∨ ∃ g cap, v = .slice (some ⟨g, 0, none⟩) n cap ∧ n ≤ cap ∧ base ≤ g ∧ g < w.heap.size ∧ ∀ (j : Nat) u, xs[j]? = some u → w.cell? ⟨g, 0 + j, none⟩ = some u := by
  have hl : xs.length = n := by have := h.1; simpa using this
  rcases h.2 with ⟨rfl, rfl⟩ | ⟨g, cap, cur, rfl, hb, hg, hc, _, hs, ht⟩
  · exact .inl ⟨rfl, List.eq_nil_of_length_eq_zero hl⟩
  · refine .inr ⟨g, cap, rfl, hc, hb, lt_of_block hg, fun j u hx => ?_⟩
    rw [Nat.zero_add, cell_of_row w g j cur e (0, 0) hg]
    have hj : j < xs.length := (List.getElem?_eq_some_iff.1 hx).1
    have h2 : (cur.toList.take (n * 1))[j]? = xs[j]? := by rw [ht]
    rw [List.getElem?_take, if_pos (by omega), hx] at h2
    simpa using h2
theorem bl_join2 (zs : List ByteArray) (sep : ByteArray) : bl (Lib.join (zs.map (·.data.toList)) sep.data.toList) = joinL (byteL sep) (zs.map byteL) := by
  rw [bl_join, List.map_map]; rfl
theorem join_any {w w0 : World} {v : Value} {zs : List ByteArray} (H : SX w0 v zs w) (sep : ByteArray) (hl : zs.length ≤ 1000000) (hj : (joinL (byteL sep) (zs.map byteL)).length ≤ 140737488355328) :
    Calls Tryz.prog 126 #[v, .string sep] w fun e w' => e = .returned (.string (strOfNums (joinL (byteL sep) (zs.map byteL)))) ∧ Below w.heap.size w w' := by
  rcases owns_form H.o with ⟨rfl, hz⟩ | ⟨g, cap, rfl, hcap, _, hlt, hc⟩
  · have hz' : zs = [] := List.map_eq_nil_iff.1 hz
    subst hz'
    exact (Tryz.strings_Join_none none 0 sep w).mono fun e w' ⟨he, hw⟩ => ⟨he, hw ▸ Below.refl _ _⟩
  · refine (Tryz.strings_Join g 0 cap zs sep w (fun j x hx => hc j _ (by rw [List.getElem?_map, hx]; rfl)) hlt (by omega) hcap ?_).mono fun e w' ⟨he, hb⟩ => ⟨by rw [he, mk_str (bl_join2 zs sep)], hb⟩
    have hlen : (bl (Lib.join (zs.map (·.data.toList)) sep.data.toList)).length = (Lib.join (zs.map (·.data.toList)) sep.data.toList).length := by unfold bl; rw [List.length_map]
    rw [← hlen, bl_join2]
    exact hj

theorem num_size (l : List Int) : (strOfNums l).size = l.length := strOfNums_size l
theorem adlower_any (s : ByteArray) (w : World) (hM : s.size ≤ 4000000) :
    Calls Tryz.prog 60 #[.string s] w fun e w' => e = .returned (.string (strOfNums (lowS (byteL s)))) ∧ Below w.heap.size w w' := by
  have HB := kd (byteL_by s)
  have HL := kd (byteL_len s)
  go_enter Tryz.func60, Tryz.ntmps60
  go_wp2_with (with_reducible refine wpList_bytesW rfl _ rfl s rfl ?_)
  intro cap w1 hcap R1 B1
  generalize hX : byteL s = X at *
  have HX := kd hX
  clear hX
  go_wp2_with fail
  go_loopw [10] (fun v wr => LWR w w1 X v wr) (fun v _ => s.size - (intOf v).toNat)
  case atStart => exact ⟨0, Nat.zero_le _, rfl, kd ⟨R1.out, B1.out⟩⟩
  case round =>
    obtain ⟨k, hk, rfl, H⟩ := hrel
    rw [HL.out] at hk
    by_cases hlt : k < s.size
    · have hlt' : k < X.length := by rw [HL.out]; exact hlt
      have hd : decide (k < s.size) = true := by simp; omega
      have hcell := H.out.1.c k _ (lowK_at hlt')
      have hfz := H.out.1.f k (by rw [lowK_len]; exact hlt')
      have hx2 := HB.out _ (getD_mem hlt')
      have LS := kd (fun hc => lowK_same (xs := X) (k := k) hlt' hc)
      have ST := kd (show lowC (X.getD k 0) = X.getD k 0 + 32 → BR (wr.setCell ⟨w.heap.size, k, none⟩ (.int .u8 (X.getD k 0 + 32))) w.heap.size (lowK X (k + 1)) from fun hc => by
        rw [← lowK_set hlt', hc]
        exact H.out.1.set (by rw [lowK_len]; exact hlt') _)
      clear hlt'
      generalize X.getD k 0 = x at *
      have x0 := hx2.1
      have x1 := hx2.2
      clear hx2
      by_cases hr : 65 ≤ x ∧ x ≤ 90
      · have d1 : decide (65 ≤ x) = true := by simp [hr.1]
        have d2 : decide (x ≤ 90) = true := by simp [hr.2]
        have S1 := kd (ST.out (if_pos hr))
        have h65 := hr.1
        have h90 := hr.2
        clear hr
        go_wp2_with fail
        go_roundw
        case rel => exact ⟨k + 1, by rw [HL.out]; omega, by go_num, kd ⟨S1.out, H.out.2.setCell (Nat.le_refl _) _⟩⟩
        case measure => simp [intOf]; omega
      · have E := kd (LS.out (if_neg hr))
        have d0 : decide (65 ≤ x) = false ∨ (decide (65 ≤ x) = true ∧ decide (x ≤ 90) = false) := by simp; omega
        clear hr
        rcases d0 with d1 | ⟨d1, d2⟩
        all_goals
          go_wp2_with fail
          go_roundw
          case rel => exact ⟨k + 1, by rw [HL.out]; omega, by go_num, kd ⟨by rw [← E.out]; exact H.out.1, H.out.2⟩⟩
          case measure => simp [intOf]; omega
    · obtain rfl : k = s.size := by omega
      have HR := H.out.1
      rw [lowK_all (by rw [HL.out]; exact Nat.le_refl _)] at HR
      have cv := HR.conv s.size cap (by rw [lowS_len]; exact HL.out)
      clear HR
      go_wp2_with fail
      go_ret
      exact ⟨by rw [HX.out]; rfl, H.out.2⟩

theorem refcontrol_any (c : Int) (w : World) (h0 : 0 ≤ c) (h1 : c < 256) : Calls Tryz.prog 154 #[.int .u8 c] w fun e w' => e = .returned (.bool (isCtl c)) ∧ w = w' := by
  go_enter Tryz.func154, Tryz.ntmps154
  unfold isCtl
  by_cases h2 : c < 32
  · have d2 : decide (c < 32) = true := by simp [h2]
    by_cases hc : c = 9
    · subst hc
      go_wp2
      go_ret
      exact ⟨rfl, rfl⟩
    · have e1 : (c == 9) = false := by simp [hc]
      go_wp2
      go_ret
      exact ⟨ret_bool (by rw [d2, e1]; rfl), rfl⟩
  · have d2 : decide (c < 32) = false := by simp [h2]
    go_wp2
    go_ret
    exact ⟨ret_bool (by first | rfl | (rw [d2]; rfl)), rfl⟩
def TOKS : List Int := [45, 46, 33, 37, 42, 95, 43, 39, 126]
theorem toks_yes : ∀ k : Fin 9, isTok (TOKS.getD k.val 0) = true := by decide +kernel
theorem toks_none {c : Int} (h : ¬ ((97 ≤ c ∧ c ≤ 122) ∨ (65 ≤ c ∧ c ≤ 90) ∨ (48 ≤ c ∧ c ≤ 57))) (hn : ∀ j, j < 9 → TOKS.getD j 0 ≠ c) : isTok c = (c == 96) := by
  have n0 := hn 0 (by omega); have n1 := hn 1 (by omega); have n2 := hn 2 (by omega); have n3 := hn 3 (by omega); have n4 := hn 4 (by omega)
  have n5 := hn 5 (by omega); have n6 := hn 6 (by omega); have n7 := hn 7 (by omega); have n8 := hn 8 (by omega)
  simp [TOKS] at n0 n1 n2 n3 n4 n5 n6 n7 n8
  by_cases h9 : c = 96
  · subst h9; decide
  · rw [show (c == 96) = false by simp [h9], tok_f]
    omega
theorem toks_idx {k : Nat} (hk : k < 9) (w : World) : (Instr.index 9 (.string ⟨#[45, 46, 33, 37, 42, 95, 43, 39, 126]⟩) (.int .i64 k)).run Tryz.prog w = .ok (.int .u8 (TOKS.getD k 0)) w :=
  idx_str ⟨#[45, 46, 33, 37, 42, 95, 43, 39, 126]⟩ (i := k) hk rfl w
theorem reftok_any (c : Int) (w : World) (h0 : 0 ≤ c) (h1 : c < 256) : Calls Tryz.prog 159 #[.int .u8 c] w fun e w' => e = .returned (.bool (isTok c)) ∧ w = w' := by
  by_cases hT : (97 ≤ c ∧ c ≤ 122) ∨ (65 ≤ c ∧ c ≤ 90) ∨ (48 ≤ c ∧ c ≤ 57)
  · rw [tok_t (by omega)]
    go_enter Tryz.func159, Tryz.ntmps159
    rcases hT with ⟨a, b⟩ | ⟨a, b⟩ | ⟨a, b⟩
    · have d1 : decide (65 ≤ c) = true := by simp; omega
      have d2 : decide (c ≤ 90) = false := by simp; omega
      have d3 : decide (97 ≤ c) = true := by simp [a]
      have d4 : decide (c ≤ 122) = true := by simp [b]
      go_wp2
      go_ret
      exact ⟨rfl, rfl⟩
    · have d1 : decide (65 ≤ c) = true := by simp [a]
      have d2 : decide (c ≤ 90) = true := by simp [b]
      go_wp2
      go_ret
      exact ⟨rfl, rfl⟩
    · have d1 : decide (65 ≤ c) = false := by simp; omega
      have d3 : decide (97 ≤ c) = false := by simp; omega
      have d5 : decide (48 ≤ c) = true := by simp [a]
      have d6 : decide (c ≤ 57) = true := by simp [b]
      go_wp2
      go_ret
      exact ⟨rfl, rfl⟩
  · have TN := kd (fun h => toks_none hT h)
    rcases (show c < 48 ∨ (57 < c ∧ c < 65) ∨ (90 < c ∧ c < 97) ∨ 122 < c by omega) with h | h | h | h
    all_goals
      clear hT
      go_enter Tryz.func159, Tryz.ntmps159
      go_wp2_with fail
      go_loop [4] (fun v => ∃ k : Nat, k ≤ 9 ∧ v = .int .i64 k ∧ Hid (∀ j, j < k → TOKS.getD j 0 ≠ c)) (fun v => 9 - (intOf v).toNat)
      case atStart => exact ⟨0, by omega, rfl, kd fun j hj => absurd hj (by omega)⟩
      case round =>
        obtain ⟨k, hk, rfl, H⟩ := hrel
        by_cases hlt : k < 9
        · have d1 := fun w => toks_idx hlt w
          have RA := kd (toks_yes ⟨k, hlt⟩)
          dsimp only at RA
          have HN := kd (show TOKS.getD k 0 ≠ c → ∀ j, j < k + 1 → TOKS.getD j 0 ≠ c from fun hne j hj => by
            rcases (show j < k ∨ j = k by omega) with h | rfl
            · exact H.out j h
            · exact hne)
          have hd : decide ((k : Int) < 9) = true := by simp; omega
          generalize TOKS.getD k 0 = y at *
          by_cases hy : y = c
          · subst hy
            go_wp2_with fail
            go_ret
            exact ⟨by rw [RA.out]; rfl, rfl⟩
          · have hb : (y == c) = false := by simpa using hy
            go_wp2_with fail
            go_round
            case rel => exact ⟨k + 1, by omega, by go_num, kd (HN.out hy)⟩
            case measure => simp [intOf]; omega
        · obtain rfl : k = 9 := by omega
          have RN := kd (TN.out H.out)
          go_wp2_with fail
          go_ret
          exact ⟨by rw [RN.out]; rfl, rfl⟩
theorem reftokend_any (s : ByteArray) (z : Int) (w : World) (hz : -9223372036854775808 ≤ z ∧ z < 9223372036854775808) (hs : s.size < 9223372036854775807) :
    Calls Tryz.prog 113 #[.string s, .int .i64 z] w fun e w' => e = .returned (.int .i64 (skipTo isTok (byteL s) (clip z s.size))) ∧ Below w.heap.size w w' := by
  have CL := kd (show clip z s.size = min z.toNat s.size from rfl)
  generalize clip z s.size = lo at *
  have HB := kd (byteL_by s)
  have HL := kd (byteL_len s)
  generalize hX : byteL s = X at *
  have HX := kd hX
  clear hX
  go_enter Tryz.func113, Tryz.ntmps113
  go_wp2_with fail
  all_goals go_loopw [5] (fun v wr => SKR w lo s.size isTok X v wr) (fun v _ => s.size - (intOf v).toNat)
  all_goals try (
    have := CL.out
    exact ⟨lo, Nat.le_refl _, by omega, rfl, by congr 1; omega, 0, rfl⟩)
  all_goals
    obtain ⟨k, hlo, hk, hsk, rfl, q, rfl⟩ := hrel
    have SK := kd hsk; clear hsk
    by_cases hlt : k < s.size
    · have hd : decide ((k : Int) < (s.size : Int)) = true := by simp; omega
      have d1 := fun w => idx_str s (i := k) hlt (z := (k : Int)) rfl w
      have hx2 := HB.out _ (getD_mem (l := X) (i := k) (by rw [HL.out]; exact hlt))
      rw [HX.out] at d1
      have SY := kd (fun h => skip_yes (p := isTok) (xs := X) (i := k) (by rw [HL.out]; exact hlt) h)
      have SN := kd (fun h => skip_no (p := isTok) (xs := X) (i := k) (by rw [HL.out]; exact hlt) h)
      generalize X.getD k 0 = x at *
      go_wp2_with fail
      refine (reftok_any x _ hx2.1 hx2.2).mono ?_
      rintro e w' ⟨rfl, rfl⟩
      cases hp : isTok x with
      | true =>
        go_wp2_with fail
        go_roundw
        case rel => exact ⟨k + 1, by omega, by omega, by rw [SK.out]; exact SY.out hp, by go_num, _, rfl⟩
        case measure => simp [intOf]; omega
      | false =>
        go_wp2_with fail
        go_ret
        exact ⟨by rw [SK.out, SN.out hp]; rfl, below_drewN _ _⟩
    · obtain rfl : k = s.size := by omega
      have hd : decide ((s.size : Int) < (s.size : Int)) = false := by simp
      go_wp2_with fail
      go_ret
      exact ⟨by rw [SK.out, skip_end (by rw [HL.out]; omega)]; rfl, below_drewN _ _⟩
theorem reftoken_any (s : ByteArray) (w : World) (hs : s.size < 9223372036854775807) :
    Calls Tryz.prog 116 #[.string s] w fun e w' => e = .returned (.bool (isToken (byteL s))) ∧ Below w.heap.size w w' := by
  go_enter Tryz.func116, Tryz.ntmps116
  by_cases h : s = ⟨#[]⟩
  · subst h
    go_wp2
    go_ret
    exact ⟨rfl, Below.refl _ _⟩
  · have hn : ¬ s.toList = [] := fun e => h (toList_nil.1 e)
    have HN := kd (fun e => h (byteL_nil.1 e))
    clear h
    go_wp2_with fail
    refine (reftokend_any s 0 w (by omega) hs).mono ?_
    rintro e w' ⟨rfl, hb⟩
    have HB := kd hb; clear hb
    have HL := kd (byteL_len s)
    go_wp2_with fail
    go_ret
    refine ⟨?_, HB.out⟩
    have hN := HN.out
    have hL := HL.out
    clear HN HL HB
    refine ret_bool ?_
    rw [show clip 0 s.size = 0 from by simp [clip]]
    unfold isToken
    rw [hL, show (byteL s).isEmpty = false from by cases hx : byteL s with
      | nil => exact (hN hx).elim
      | cons _ _ => rfl]
    simp only [Bool.not_false, Bool.true_and]
    rw [Bool.eq_iff_iff]
    simp [hn]
    try omega

end Go.Proofs.YthfonniieaiocaaGreatDoor
