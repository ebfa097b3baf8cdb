/- The library's contracts at this program. And what stands behind it. -/
import Derived.Shelf.Strings.Builder1
import Derived.Shelf.Strings.Builder2
import Derived.Shelf.Strings.OnBuilder
import Derived.Shelf.Strings.Trim
import Derived.Shelf.Small.Utf8
import Derived.Shelf.Small.Strs
import Derived.Shelf.Small.Wraps
import Derived.Shelf.Strings.BuilderF
import Derived.Shelf.Strings.BuilderK
import Derived.Shelf.Strings.Builder2Cap
import Derived.Shelf.Strconv.Itoa0
import Derived.Shelf.Strconv.Itoa1
import Derived.Shelf.LaysM
import Derived.Shelf.Strconv.Itoa2
import Derived.Shelf.Strconv.Itoa3
import Derived.Shelf.Strings.Search1
import Derived.Shelf.Strings.Search2
import Derived.Shelf.Strings.Search3
import Derived.Shelf.Strings.Cut
import Derived.Shelf.Strings.Count
import Derived.Shelf.Strings.Shaped
import Derived.Shelf.Strings.Prefix
import Derived.Shelf.Strings.Split
import Derived.Shelf.Strings.SplitShaped
import Derived.Shelf.Unicode.Decode
import Derived.Shelf.Strings.Runes
import Derived.Shelf.Strings.RuneCount
import Derived.Shelf.Strings.IndexAny
import Derived.Shelf.Strings.AsciiSet
import Derived.Shelf.Strings.IndexAnyAll
import Derived.Shelf.Strings.Explode
import Derived.Shelf.Unicode.DecodeSlow
import Derived.Shelf.Unicode.DecodeAny
import Derived.Shelf.Strings.BuilderCap
import Derived.Test.YthfonniieaiocaaGreatDoorProg
import Derived.Test.YthfonniieaiocaaGreatDoorBd
import Derived.Test.YthfonniieaiocaaGreatDoorFe
import Derived.Lib.AppendIntMem
import Derived.RangeFuncNested
import Derived.RangeFuncBound
import Derived.RangeFuncCalls
import Derived.RangeFuncLeaves
import Derived.Shelf.Abstract
import Derived.Shelf.RegionOpen
import Derived.WalkKit
import Derived.OwnWalkIn
import Derived.TacticsInMore
import Derived.LoopNIn
import Derived.LoopIn
set_option linter.unusedVariables false
set_option linter.unusedSimpArgs false
namespace Go.Proofs
open Go.Shelf
def Tryz.laysM171_ren : Go.Shelf.Ren := ⟨fun | 171 => 91 | 243 => 151 | 246 => 181 | 283 => 200 | 284 => 201 | 285 => 202 | 286 => 203 | 129 => 212 | 317 => 211 | 318 => 213 | 319 => 214 | 320 => 215 | 337 => 217 | 338 => 218 | n => n, fun | 3 => 3 | 9 => 9 | 2 => 2 | 4 => 4 | 171 => 182 | 0 => 0 | 53 => 183 | 37 => 69 | 5 => 5 | 173 => 186 | 212 => 194 | 51 => 190 | 20 => 20 | 213 => 195 | 46 => 70 | 232 => 202 | 233 => 203 | n => n, fun | 17 => 2 | 18 => 5 | 19 => 6 | n => n⟩
theorem Tryz.laysM171 : Go.Proofs.LaysM.n171 Tryz.prog Tryz.laysM171_ren := {
  mixed := by kernel_rfl
  f129 := Tryz.func212.trans (congrArg some (by kernel_rfl))
  f171 := Tryz.func91.trans (congrArg some (by kernel_rfl))
  f243 := Tryz.func151.trans (congrArg some (by kernel_rfl))
  f246 := Tryz.func181.trans (congrArg some (by kernel_rfl))
  f283 := Tryz.func200.trans (congrArg some (by kernel_rfl))
  f284 := Tryz.func201.trans (congrArg some (by kernel_rfl))
  f285 := Tryz.func202.trans (congrArg some (by kernel_rfl))
  f286 := Tryz.func203.trans (congrArg some (by kernel_rfl))
  f317 := Tryz.func211.trans (congrArg some (by kernel_rfl))
  f318 := Tryz.func213.trans (congrArg some (by kernel_rfl))
  f319 := Tryz.func214.trans (congrArg some (by kernel_rfl))
  f320 := Tryz.func215.trans (congrArg some (by kernel_rfl))
  f337 := Tryz.func217.trans (congrArg some (by kernel_rfl))
  f338 := Tryz.func218.trans (congrArg some (by kernel_rfl))
  t0 := Tryz.underlying0
  a0 := Tryz.isAgg0
  z0 := Tryz.sizeOf0
  v0 := Tryz.zeroValue0
  t2 := Tryz.underlying2
  a2 := Tryz.isAgg2
  z2 := Tryz.sizeOf2
  v2 := Tryz.zeroValue2
  t3 := Tryz.underlying3
  a3 := Tryz.isAgg3
  z3 := Tryz.sizeOf3
  v3 := Tryz.zeroValue3
  t4 := Tryz.underlying4
  a4 := Tryz.isAgg4
  z4 := Tryz.sizeOf4
  v4 := Tryz.zeroValue4
  t5 := Tryz.underlying5
  a5 := Tryz.isAgg5
  z5 := Tryz.sizeOf5
  v5 := Tryz.zeroValue5
  t9 := Tryz.underlying9
  a9 := Tryz.isAgg9
  z9 := Tryz.sizeOf9
  v9 := Tryz.zeroValue9
  t20 := Tryz.underlying20
  a20 := Tryz.isAgg20
  z20 := Tryz.sizeOf20
  v20 := Tryz.zeroValue20
  t37 := Tryz.underlying69
  a37 := Tryz.isAgg69
  z37 := Tryz.sizeOf69
  v37 := Tryz.zeroValue69
  t46 := Tryz.underlying70
  a46 := Tryz.isAgg70
  z46 := Tryz.sizeOf70
  v46 := Tryz.zeroValue70
  t51 := Tryz.underlying190
  a51 := Tryz.isAgg190
  z51 := Tryz.sizeOf190
  v51 := Tryz.zeroValue190
  t53 := Tryz.underlying183
  a53 := Tryz.isAgg183
  z53 := Tryz.sizeOf183
  v53 := Tryz.zeroValue183
  t171 := Tryz.underlying182
  a171 := Tryz.isAgg182
  z171 := Tryz.sizeOf182
  v171 := Tryz.zeroValue182
  t173 := Tryz.underlying186
  a173 := Tryz.isAgg186
  z173 := Tryz.sizeOf186
  v173 := Tryz.zeroValue186
  t212 := Tryz.underlying194
  a212 := Tryz.isAgg194
  z212 := Tryz.sizeOf194
  v212 := Tryz.zeroValue194
  t213 := Tryz.underlying195
  a213 := Tryz.isAgg195
  z213 := Tryz.sizeOf195
  t232 := Tryz.underlying202
  a232 := Tryz.isAgg202
  z232 := Tryz.sizeOf202
  v232 := Tryz.zeroValue202
  t233 := Tryz.underlying203
  a233 := Tryz.isAgg203
  z233 := Tryz.sizeOf203
  v233 := Tryz.zeroValue203
  g17 := by kernel_rfl
  g18 := by kernel_rfl
  g19 := by kernel_rfl
  i0 := by kernel_rfl
  i2 := by kernel_rfl
  i3 := by kernel_rfl
  i4 := by kernel_rfl
  i5 := by kernel_rfl
  i9 := by kernel_rfl
  i20 := by kernel_rfl
  i37 := by kernel_rfl
  i46 := by kernel_rfl
  i51 := by kernel_rfl
  i53 := by kernel_rfl
  i171 := by kernel_rfl
  i173 := by kernel_rfl
  i212 := by kernel_rfl
  i232 := by kernel_rfl
  i233 := by kernel_rfl
  m17 := by kernel_rfl
  m18 := by kernel_rfl
  m19 := by kernel_rfl }
open Go.RowKit Go.Sort Go.Lib in
theorem Tryz.strconv_Itoa (n : Int) (h0 : -9223372036854775808 ≤ n) (h1 : n ≤ 9223372036854775807) (w : World) (htab : Lib.TabIs Tryz.prog w "internal/strconv.uint64pow10" .u64 Lib.pow10Tab) :
    Calls Tryz.prog 91 #[.int .i64 n] w fun e w' => e = .returned (.string ⟨(Lib.itoa n).toArray⟩) ∧ ∃ k os, w' = grow (w.drewN k) os := Any.strconv_Itoa Tryz.laysM171 n h0 h1 w htab
end Go.Proofs
namespace Go.Proofs.YthfonniieaiocaaGreatDoor
open Go.RowKit

def PT (w : World) : Prop := Lib.TabIs Tryz.prog w "internal/strconv.uint64pow10" .u64 Lib.pow10Tab
theorem PT.below {w w' : World} (h : PT w) (hb : Below w.heap.size w w') : PT w' := Lib.tabBelow_of_tabIs h w' hb
theorem itoa_any (n : Int) (w : World) (h0 : 0 ≤ n) (h1 : n ≤ 9223372036854775807) (hP : PT w) : Calls Tryz.prog 91 #[.int .i64 n] w fun e w' => e = .returned (.string (strOfNums (decL n))) ∧ Below w.heap.size w w' :=
  (Tryz.strconv_Itoa n (by omega) h1 w hP).mono fun e w' ⟨he, k, os, hw⟩ => ⟨by rw [he, mk_str (rfl : bl (Lib.itoa n) = bl (Lib.itoa n))]; rfl, by rw [hw]; exact Lib.below_grow _ _ (Nat.le_refl _) _ _⟩

theorem tl_beq (a b : ByteArray) : (a.toList == b.toList) = (byteL a == byteL b) := by
  rw [Bool.eq_iff_iff, beq_iff_eq, beq_iff_eq, toList_inj]
  constructor
  · rintro rfl; rfl
  · intro h; exact byteL_inj h
theorem numOK_eq (n : List Int) : numOK n = ((n.all isDig && !n.isEmpty) && (decide (valL n ≤ 255) && n == decL (valL n))) := rfl
theorem num_no {s : List Int} {k : Nat} {p : List Int} (hp : (cutL 46 s)[k]? = some p) (h : numOK p = false) : (cutL 46 s).all numOK = false := by
  rw [Bool.eq_false_iff]
  intro ha
  have := List.all_eq_true.1 ha p (List.mem_of_getElem? hp)
  rw [h] at this; cases this
set_option maxRecDepth 100000 in
set_option maxHeartbeats 4000000 in
theorem numbers_any (s : ByteArray) (w : World) (hm : GM w) (hP : PT w) : Calls Tryz.prog 58 #[.string s] w fun e w' => e = .returned (.bool (numbersL (byteL s))) ∧ Below w.heap.size w w' := by
  have NE := kd (show numbersL (byteL s) = (decide (s.size ≤ 15) && ((cutL 46 (byteL s)).all numOK && decide ((cutL 46 (byteL s)).length = 4))) by rw [← byteL_len]; rfl)
  generalize numbersL (byteL s) = R at *
  by_cases h15 : 15 < s.size
  · have d1 : decide ((15 : Int) < (s.size : Int)) = true := by simp; omega
    have E := kd (show R = false by rw [NE.out, decide_eq_false (by omega)]; rfl)
    go_enter Tryz.func58, Tryz.ntmps58
    go_wp2_with fail
    go_ret
    exact ⟨by rw [E.out]; rfl, Below.refl _ _⟩
  have d1 : decide ((15 : Int) < (s.size : Int)) = false := by simp; omega
  have s15 : s.size ≤ 15 := by omega
  have HP := kd hP
  have SP := kd (split_any s 46 w (by omega) hm)
  have PB := kd (cutL_by (sep := 46) (byteL_by s))
  have NO := kd (fun k p h h2 => num_no (s := byteL s) (k := k) (p := p) h h2)
  have PL := kd (show ∀ p ∈ cutL 46 (byteL s), p.length ≤ s.size from fun p hp => by rw [← byteL_len]; exact ((cutL_sub 46 _).1 p hp).length_le)
  have PC := kd (show (cutL 46 (byteL s)).length ≤ s.size + 1 from by rw [← byteL_len]; exact (cutL_sub 46 _).2)
  rw [show (((46 : UInt8)).toNat : Int) = 46 from rfl] at SP
  rw [decide_eq_true s15, Bool.true_and] at NE
  obtain ⟨ps, hps⟩ : ∃ ps, cutL 46 (byteL s) = ps := ⟨_, rfl⟩
  rw [hps] at PB NO PL PC NE
  have PSE := kd hps
  clear hps hm hP h15
  have ST := kd (Mine.refl w)
  go_enter Tryz.func58, Tryz.ntmps58
  go_wp2_with fail
  refine SP.out.mono ?_
  clear SP
  rintro e W0 ⟨zs, hz, rfl, rfl⟩
  have hz2 : zs = ps.map strOfNums := by rw [← PSE.out, ← hz, List.map_map]; exact (List.map_id _).symm.trans (List.map_congr_left fun z _ => (str_byteL z).symm)
  have hz3 : zs.map Value.string = strs ps := by rw [hz2, List.map_map]; rfl
  have hz4 : zs.length = ps.length := by rw [hz2, List.length_map]
  rw [hz3, hz4]
  clear hz hz2 hz3 hz4
  obtain ⟨n, hn⟩ : ∃ n, ps.length = n := ⟨_, rfl⟩
  rw [hn] at NE PC ⊢
  have HN := kd hn
  have nl : n ≤ 16 := by have := PC.out; omega
  clear hn PC PSE
  replace ST := kd ((show Mine w (w.alloc (.cells (strs ps).toArray 9)) [(w.heap.size, 9, strs ps)] [] from ST.out.alloc 9 (strs ps)).rest)
  generalize w.alloc (.cells (strs ps).toArray 9) = W at *
  go_wp2_with fail
  clear d1
  go_loopw [15] (fun v wr => ∃ k : Nat, k ≤ n ∧ v = .int .i64 k ∧ Hid ((ps.take k).all numOK = true) ∧ Hid (Mine w wr [] [(fun W => Row W w.heap.size 9 (strs ps))])) (fun v _ => n - (intOf v).toNat)
  case atStart => exact ⟨0, Nat.zero_le _, rfl, kd rfl, ST⟩
  case round =>
    clear ST
    obtain ⟨k, hk, rfl, OK, ST⟩ := hrel
    by_cases hlt : k < n
    · have hd : decide (k < n) = true := by simp [hlt]
      have hd2 : decide ((k : Int) < (n : Int)) = true := by simp; omega
      have i0 : (0 : Int) ≤ (k : Int) := by omega
      have i1 : (k : Int) < (n : Int) := by omega
      obtain ⟨p, hp⟩ : ∃ p, ps[k]? = some p := ⟨_, List.getElem?_eq_getElem (by rw [HN.out]; exact hlt)⟩
      have cx := ((show Row wr w.heap.size 9 (strs ps) from ST.out.fact (i := 0) rfl).cell k).trans (show (strs ps)[k]? = some (.string (strOfNums p)) by unfold strs; rw [List.getElem?_map, hp]; rfl)
      have pb := PB.out p (List.mem_of_getElem? hp)
      have pl := PL.out p (List.mem_of_getElem? hp)
      have BAD := kd (NO.out k p hp)
      have NXT := kd (fun (h : numOK p = true) => show (ps.take (k + 1)).all numOK = true by rw [take_succ_at hp, List.all_append, OK.out]; simp [h])
      have NOK := kd (numOK_eq p)
      clear hp
      obtain ⟨g, hg⟩ : ∃ g, strOfNums p = g := ⟨_, rfl⟩
      have gX : byteL g = p := by rw [← hg]; exact byteL_str pb
      have g15 : g.size ≤ 15 := by rw [← byteL_len, gX]; omega
      rw [hg] at cx
      clear hg
      subst gX
      have HL := kd (byteL_len g)
      have HB := kd pb
      have IDX := kd (fun (i : Nat) (h : i < g.size) (w : World) => idx_str g (i := i) h (z := (i : Int)) rfl w)
      have TB := kd (fun b => tl_beq g b)
      clear pb pl
      generalize numOK (byteL g) = go at *
      generalize byteL g = X at *
      go_wp2_with fail
      obtain ⟨wo, rfl⟩ : ∃ wo : World, wo = wr := ⟨_, rfl⟩
      go_loopw [6, 21] (fun v6 v wr => ∃ (j : Nat) (m : Int), j ≤ g.size ∧ v6 = .int .i64 m ∧ v = .int .i64 j ∧ 0 ≤ m ∧ m ≤ 1000000000000000 ∧ Hid (m = valL (X.take j) ∧ (X.take j).all isDig = true) ∧ wr = wo) (fun _ v _ => g.size - (intOf v).toNat)
      case atStart => exact ⟨0, 0, Nat.zero_le _, rfl, rfl, by decide, by decide, kd ⟨rfl, rfl⟩, rfl⟩
      case round =>
        obtain ⟨j, m, hj, rfl, rfl, m0, m1, HJ, rfl⟩ := hrel
        by_cases hjt : j < g.size
        · have e1 : decide ((j : Int) < (g.size : Int)) = true := by simp; omega
          have dx := IDX.out j hjt
          have hjX : j < X.length := by rw [HL.out]; exact hjt
          have hx := HB.out _ (getD_mem hjX)
          have BD2 := kd (fun h => all_no (p := isDig) hjX h)
          have NX2 := kd (fun (h : isDig (X.getD j 0) = true) => show 10 * m + (X.getD j 0 - 48) = valL (X.take (j + 1)) ∧ (X.take (j + 1)).all isDig = true by
            rw [all_take_succ hjX, HJ.out.2, h, take_snocI X hjX, valL_snoc, ← HJ.out.1]
            exact ⟨rfl, rfl⟩)
          have NR := kd (fun h => valL_range (X.take (j + 1)) h)
          have NL := kd (show (X.take (j + 1)).length ≤ 15 by rw [List.length_take]; omega)
          have HD := kd (addigit_any (X.getD j 0) wr)
          clear hjX
          generalize X.getD j 0 = x at *
          cases hb : isDig x with
          | false =>
            have E := kd (show R = false by rw [NE.out, BAD.out (by rw [NOK.out, BD2.out hb]; rfl)]; rfl)
            rw [hb] at HD
            clear BD2 NX2
            go_wp2_with (go_at_call 121; refine HD.out.mono ?_; rintro e w' ⟨rfl, rfl⟩)
            go_ret
            exact ⟨by rw [E.out]; rfl, ST.out.bw⟩
          | true =>
            have N := NX2.out hb
            have N2 := NR.out N.2
            rw [← N.1] at N2
            have N3 : 10 * m + (x - 48) ≤ 1000000000000000 := by
              have h1 : (10 : Int) ^ (X.take (j + 1)).length ≤ 10 ^ 15 := by
                have h := Nat.pow_le_pow_right (n := 10) (by decide) NL.out
                exact_mod_cast h
              have h2 : (10 : Int) ^ 15 = 1000000000000000 := by decide
              omega
            have N0 := N2.1
            have x0 : 48 ≤ x ∧ x ≤ 57 := by unfold isDig at hb; simp at hb; exact hb
            obtain ⟨xa, xb⟩ := x0
            have NH := kd N
            rw [hb] at HD
            clear BD2 NX2 N N2 NR NL BAD hx
            go_wp2_with (go_at_call 121; refine HD.out.mono ?_; rintro e w' ⟨rfl, rfl⟩)
            go_roundw
            case rel => exact ⟨j + 1, 10 * m + (x - 48), by omega, by go_num, by go_num, N0, N3, NH, by first | rfl | trivial⟩
            case measure => simp [intOf]; omega
        · obtain rfl : j = g.size := by omega
          have e1 : decide ((g.size : Int) < (g.size : Int)) = false := by simp
          have HJO := HJ.out
          rw [List.take_of_length_le (by rw [HL.out]; exact Nat.le_refl _)] at HJO
          rw [HJO.2, ← HJO.1, Bool.true_and] at NOK
          clear HJ HJO IDX HB
          have q0 := TB.out ⟨#[]⟩
          have qd := TB.out (strOfNums (decL m))
          rw [byteL_str (decL_by m)] at qd
          rw [show byteL ⟨#[]⟩ = [] from rfl] at q0
          have q0' : (g.toList == ([] : List UInt8)) = (X == []) := by
            rw [show ([] : List UInt8) = (⟨#[]⟩ : ByteArray).toList by kernel_rfl]
            exact q0
          clear q0 TB
          by_cases h0 : X = []
          · subst h0
            have E := kd (show R = false by rw [NE.out, BAD.out (by rw [NOK.out]; rfl)]; rfl)
            clear qd
            go_wp2_with fail
            go_ret
            exact ⟨by rw [E.out]; rfl, ST.out.bw⟩
          · have qf : (g.toList == ([] : List UInt8)) = false := by rw [q0', beq_eq_false_iff_ne]; exact h0
            have hne : X.isEmpty = false := by cases X with
              | nil => exact absurd rfl h0
              | cons a b => rfl
            rw [hne] at NOK
            clear q0'
            by_cases h255 : 255 < m
            · have d5 : decide (255 < m) = true := by simp [h255]
              have E := kd (show R = false by rw [NE.out, BAD.out (by rw [NOK.out, decide_eq_false (by omega)]; rfl)]; rfl)
              clear qd
              go_wp2_with fail
              go_ret
              exact ⟨by rw [E.out]; rfl, ST.out.bw⟩
            · have d5 : decide (255 < m) = false := by simpa using h255
              have IT := kd (itoa_any m wr m0 (by omega) (HP.out.below ST.out.bw))
              rw [decide_eq_true (show m ≤ 255 by omega)] at NOK
              cases hq : X == decL m with
              | false =>
                rw [hq] at qd NOK
                have E := kd (show R = false by rw [NE.out, BAD.out (by rw [NOK.out]; rfl)]; rfl)
                go_wp2_with (go_at_call 91; refine IT.out.mono ?_; rintro e w9 ⟨rfl, hb9⟩; replace ST := kd (ST.out.call hb9); clear hb9)
                go_ret
                exact ⟨by rw [E.out]; rfl, ST.out.bw⟩
              | true =>
                rw [hq] at qd NOK
                have OK2 := kd (NXT.out NOK.out)
                go_wp2_with (go_at_call 91; refine IT.out.mono ?_; rintro e w9 ⟨rfl, hb9⟩; replace ST := kd (ST.out.call hb9); clear hb9)
                go_roundw
                case rel => exact ⟨k + 1, by omega, by go_num, OK2, ST⟩
                case measure => simp [intOf]; omega
    · obtain rfl : k = n := by omega
      have OKA := OK.out
      rw [List.take_of_length_le (by rw [HN.out]; exact Nat.le_refl _)] at OKA
      rw [OKA, Bool.true_and] at NE
      by_cases h4 : k = 4
      · subst h4
        have E := kd (show R = true from NE.out)
        go_wp2_with fail
        go_ret
        exact ⟨by rw [E.out]; rfl, ST.out.bw⟩
      · have E := kd (show R = false by rw [NE.out]; exact decide_eq_false h4)
        have d4 : ((k : Int) == 4) = false := by simp; omega
        go_wp2_with fail
        go_ret
        exact ⟨by rw [E.out]; rfl, ST.out.bw⟩
open Go.RowKit Go.Shelf

def Same3 (b : Nat) (W W' : World) : Prop := ∀ k, b ≤ k → k < b + 3 → W'.heap[k]? = W.heap[k]?
theorem Same3.trans {b : Nat} {X Y Z : World} (h : Same3 b X Y) (k : Same3 b Y Z) : Same3 b X Z := fun i h1 h2 => (k i h1 h2).trans (h i h1 h2)
theorem Same3.put {b l : Nat} {W : World} {o : Obj} (h : b + 3 ≤ l) : Same3 b W (W.putObj l o) := fun k _ h2 => World.putObj_heap_other (by omega)
theorem heap_cell {W : World} {b k : Nat} {v : Value} (h : k ≠ b) : (W.setCell ⟨b, 0, none⟩ v).heap[k]? = W.heap[k]? := Below.heap_setCell W _ v k h
section
variable {α : Type} {n : Nat} {P : Program}
def SeqC (n : Nat) (P : Program) (g : Nat) (lb : Array Value) (encs : α → Array Value) (b0 Bs : Nat) (S Sp : List α → Prop) (N : Nat) (W0 : World) : Prop :=
  ∀ (l : Nat) (J Jx : List α → World → Prop) (W : World), (∀ s X v, J s X → J s (X.setCell ⟨Bs, 0, none⟩ v)) → (∀ s X v, Jx s X → Jx s (X.setCell ⟨Bs, 0, none⟩ v)) → Below W0.heap.size W0 W →
    (∀ pre x W1, J pre W1 → pre.length < N → YieldAt Fence.wide (n - 1) P l (encs x) W1 fun e W' =>
      (e = .returned (.bool true) ∧ J (pre ++ [x]) W' ∧ Same3 b0 W1 W') ∨ (e = .returned (.bool false) ∧ Jx (pre ++ [x]) W')) →
    J [] W →
    CallsIn Fence.wide n P g (#[.func (.yield l) #[] #[]] ++ lb) W fun e W' => (∃ v, e = .returned v) ∧ ((∃ xs, S xs ∧ J xs W') ∨ (∃ pre, Sp pre ∧ Jx pre W'))
theorem range_c {g : Operand} {ps : Array Tmp} {assign body : Code} {Q : Exit → Act → World → Prop} {a : Act} {w : World} (hn : 1 ≤ n) {gf : Nat} {lb : Array Value}
    (hg : a.eval g = .func (.func gf) #[] lb) (eg : ∀ args w, (callFunc gf args).run P w = .ok (.enter gf args) w) {encs : α → Array Value} {b0 Bs : Nat} {S Sp : List α → Prop} {N : Nat}
    (hseq : SeqC (n - 1) P gf lb encs b0 Bs S Sp N w) (h3 : b0 + 3 ≤ w.heap.size) (hBs : Bs < w.heap.size) (hps : ∀ x, (encs x).size = ps.size)
    (I : List α → World → Prop) (Ix : Code → List α → World → Prop) (hI : OwnFrom w.heap.size I) (hIx : ∀ c, OwnFrom w.heap.size (Ix c))
    (hIB : ∀ s X v, I s X → I s (X.setCell ⟨Bs, 0, none⟩ v)) (hIxB : ∀ c s X v, Ix c s X → Ix c s (X.setCell ⟨Bs, 0, none⟩ v)) (h0 : I [] w) (a₁ : α → Act)
    (hassign : ∀ (l : Nat) (x : α) (W : World) (K : Act → World → Prop), K (a₁ x) W →
      assign.wpIn (Fence.wide.inRound l) (n - 1 - 1) P (Exit.then K (fun _ _ _ => False)) { tmps := (ps.zip (encs x)).foldl (fun t (p, v) => t.setIfInBounds p v) a.tmps, defers := [] } W)
    (hbody : ∀ (l : Nat) (pre : List α) (x : α) (W : World), w.heap.size ≤ l → I pre W → pre.length < N → body.wpIn (Fence.wide.inRound l) (n - 1 - 1) P (ownPostG w.heap.size (Same3 b0) I Ix (pre ++ [x]) W) (a₁ x) W)
    (hdone : ∀ (D : Nat) (xs : List α) (W : World), w.heap.size ≤ D → S xs → I xs W → W.heap[D]? = some (.deferred (some [])) → Q .normal { a with defers := { target := .collected D, args := #[] } :: a.defers } W)
    (hstop : ∀ (D : Nat) (c : Code) (pre : List α) (W : World), w.heap.size ≤ D → Sp pre → Ix c pre W → W.heap[D]? = some (.deferred (some [])) → c.wpIn Fence.wide n P Q { a with defers := { target := .collected D, args := #[] } :: a.defers } W) :
    (Code.rangeFunc g ps assign body).wpIn Fence.wide n P Q a w := by
  refine wpIn_rangeFunc fun fn hfn => ?_
  rw [show Fence.wide.round = none from rfl]
  obtain ⟨R, hR⟩ : ∃ R : LoopState → Option Code → Loop, R = fun st pe => { state := st, pending := pe, fn, tmps := a.tmps, params := ps, assign, body, defers := w.heap.size } := ⟨_, rfl⟩
  obtain ⟨V, hV⟩ : ∃ V, (w.alloc (.deferred (some []))).alloc (.loop (R .ready none)) = V := ⟨_, rfl⟩
  have vl : V.heap[w.heap.size + 1]? = some (.loop (R .ready none)) := by
    have h := World.alloc_heap_new (w.alloc (.deferred (some []))) (.loop (R .ready none))
    rw [World.size_alloc, hV] at h
    exact h
  have vd : V.heap[w.heap.size]? = some (.deferred (some [])) := by
    rw [← hV]
    exact (Below.heap_alloc _ _ _ (by simp)).trans (World.alloc_heap_new w _)
  have vI : I [] V := by rw [← hV]; exact hI.alloc _ (hI.alloc _ h0)
  have vb : Below w.heap.size w V := by rw [← hV]; exact ((Below.refl _ w).alloc (Nat.le_refl _) _).alloc (by simp) _
  refine ⟨w.heap.size + 1, [{ target := .collected w.heap.size, args := #[] }], V, { target := .fn (.func gf) lb, args := #[.func (.yield (w.heap.size + 1)) #[] #[]] }, V, gf,
    #[.func (.yield (w.heap.size + 1)) #[] #[]] ++ lb, V, ?_, ?_, (fun f' _ => trivial), ?_, (fun _ => hn), ?_⟩
  · rw [← hV, hR]; exact run_enterLoop_outer _ _ _ _ _
  · simp only [resolve, hg]
    simp [go_sem]
  · simp [invoke, go_sem, eg]
  have cell2 : ∀ {X : World} {v : Value} {k : Nat} {o : Obj}, w.heap.size ≤ k → X.heap[k]? = some o → (X.setCell ⟨Bs, 0, none⟩ v).heap[k]? = some o := fun hk h => (heap_cell (by omega)).trans h
  refine (hseq (w.heap.size + 1)
    (fun pre W => I pre W ∧ W.heap[w.heap.size + 1]? = some (.loop (R .ready none)) ∧ W.heap[w.heap.size]? = some (.deferred (some [])))
    (fun pre W => ∃ c, Ix c pre W ∧ W.heap[w.heap.size + 1]? = some (.loop (R .done (some c))) ∧ W.heap[w.heap.size]? = some (.deferred (some [])))
    V (fun s X v h => ⟨hIB s X v h.1, cell2 (by omega) h.2.1, cell2 (Nat.le_refl _) h.2.2⟩)
    (fun s X v h => by
      obtain ⟨c, h1, h2, h4⟩ := h
      exact ⟨c, hIxB c s X v h1, cell2 (by omega) h2, cell2 (Nat.le_refl _) h4⟩) vb ?_ ⟨vI, vl, vd⟩).mono ?_
  · rintro pre x W ⟨hi, hl, hd⟩ hlen
    have hlt : w.heap.size + 1 < W.heap.size := (Array.getElem?_eq_some_iff.1 hl).1
    have hy := run_yield (P := P) (args := encs x) hl (by rw [hR]; exact hps x)
    rw [hR] at hy
    refine ⟨fn, _, assign, body, hy, roundIn_of_wpIn hfn (hassign _ x W _ ?_)⟩
    clear hy
    refine ⟨_, run_beginRound hl (by rw [hR]), ?_⟩
    have bl : (W.putObj (w.heap.size + 1) (.loop { R .ready none with state := .busy })).heap[w.heap.size + 1]? = some (.loop { R .ready none with state := .busy }) := World.putObj_heap_same hlt
    have bd : (W.putObj (w.heap.size + 1) (.loop { R .ready none with state := .busy })).heap[w.heap.size]? = some (.deferred (some [])) := (World.putObj_heap_other (by omega)).trans hd
    have bk : Same3 b0 W (W.putObj (w.heap.size + 1) (.loop { R .ready none with state := .busy })) := Same3.put (by omega)
    refine wpIn_mono (hbody _ pre x _ (by omega) (hI.putObj _ hi (by omega) hl rfl) hlen) ?_
    have out : ∀ (jump : Option Code) (X : World), KeepsFrom w.heap.size (W.putObj (w.heap.size + 1) (.loop { R .ready none with state := .busy })) X →
        (Instr.endRound (w.heap.size + 1) jump).run P X = .ok (.bool jump.isNone) (X.putObj (w.heap.size + 1) (.loop (R (if jump.isNone then .ready else .done) jump))) ∧
        X.heap[w.heap.size + 1]? = some (.loop { R .ready none with state := .busy }) ∧
        (X.putObj (w.heap.size + 1) (.loop (R (if jump.isNone then .ready else .done) jump))).heap[w.heap.size + 1]? = some (.loop (R (if jump.isNone then .ready else .done) jump)) ∧
        (X.putObj (w.heap.size + 1) (.loop (R (if jump.isNone then .ready else .done) jump))).heap[w.heap.size]? = some (.deferred (some [])) := fun jump X hk => by
      have xl := hk.same _ _ (by omega) bl rfl
      have h := run_endRound (P := P) jump xl
      rw [hR] at h xl ⊢
      exact ⟨h, xl, World.putObj_heap_same (Array.getElem?_eq_some_iff.1 xl).1, (World.putObj_heap_other (by omega)).trans (hk.same _ _ (Nat.le_refl _) bd rfl)⟩
    rintro e a3 X hp
    cases e with
    | normal =>
      obtain ⟨hk, hs, hi3⟩ := hp
      obtain ⟨hr, xl, yl, yd⟩ := out none X hk
      exact ⟨_, _, hr, .inl ⟨rfl, ⟨hI.putObj _ hi3 (by omega) xl rfl, yl, yd⟩, (bk.trans hs).trans (Same3.put (by omega))⟩⟩
    | ret =>
      obtain ⟨hk, hi3⟩ := hp
      obtain ⟨hr, xl, yl, yd⟩ := out (some .ret) X hk
      exact ⟨_, _, hr, .inr ⟨rfl, .ret, (hIx _).putObj _ hi3 (by omega) xl rfl, yl, yd⟩⟩
    | exit id =>
      obtain ⟨hk, hi3⟩ := hp
      obtain ⟨hr, xl, yl, yd⟩ := out (some (.exit id)) X hk
      exact ⟨_, _, hr, .inr ⟨rfl, .exit id, (hIx _).putObj _ hi3 (by omega) xl rfl, yl, yd⟩⟩
    | goto t =>
      obtain ⟨hk, hi3⟩ := hp
      obtain ⟨hr, xl, yl, yd⟩ := out (some (.goto t)) X hk
      exact ⟨_, _, hr, .inr ⟨rfl, .goto t, (hIx _).putObj _ hi3 (by omega) xl rfl, yl, yd⟩⟩
    | panic ch => exact hp.elim
    | outgrown => exact hp.elim
  · rintro e X ⟨⟨v, rfl⟩, (⟨xs, hS, hi, hl, hd⟩ | ⟨pre, hSp, c, hi, hl, hd⟩)⟩
    · exact ⟨none, _, by have h := run_endLoop (P := P) hl (by rw [hR]; simp); rw [hR] at h; exact h, hdone _ xs _ (Nat.le_refl _) hS (hI.putObj _ hi (by omega) hl rfl) ((World.putObj_heap_other (by omega)).trans hd)⟩
    · exact ⟨some c, _, by have h := run_endLoop (P := P) hl (by rw [hR]; simp); rw [hR] at h; exact h, hstop _ c pre _ (Nat.le_refl _) hSp ((hIx c).putObj _ hi (by omega) hl rfl) ((World.putObj_heap_other (by omega)).trans hd)⟩
end
end Go.Proofs.YthfonniieaiocaaGreatDoor
