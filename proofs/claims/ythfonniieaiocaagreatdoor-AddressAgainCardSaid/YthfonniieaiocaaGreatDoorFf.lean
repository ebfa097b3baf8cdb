/- Contract: address.groupList. Contracts: what message.Set calls, where no header has the name: copied, DeleteFunc, Insert. Contracts: message.full, slices.DeleteFunc without a hit, slices.Insert at the end, message.Drop without a hit. Contracts: message.Set where no header has the name. The library's contracts at this program. The texts that Headers writes; strconv.Itoa; refresh.Headers. -/
import Derived.Test.YthfonniieaiocaaGreatDoorLk
import Derived.Test.YthfonniieaiocaaGreatDoorBm
import Derived.Test.YthfonniieaiocaaGreatDoorBc
import Derived.Test.YthfonniieaiocaaGreatDoorHa
import Derived.Test.YthfonniieaiocaaGreatDoorAm
import Derived.Test.YthfonniieaiocaaGreatDoorEy
import Derived.Test.YthfonniieaiocaaGreatDoorAj
import Derived.Shelf.Strings.Builder1
import Derived.Shelf.Strings.Builder2
import Derived.Shelf.Strings.OnBuilder
import Derived.Shelf.Strings.Trim
import Derived.Shelf.Small.Utf8
import Derived.Shelf.Small.Strs
import Derived.Shelf.Strconv.Itoa0
import Derived.Shelf.Strconv.Itoa1
import Derived.Shelf.LaysM
import Derived.Shelf.Strconv.Itoa2
import Derived.Shelf.Strconv.Itoa3
import Derived.Shelf.Strings.Search1
import Derived.Shelf.Strings.Search2
import Derived.Shelf.Strings.Search3
import Derived.Shelf.Strings.Cut
import Derived.Shelf.Strings.Count
import Derived.Shelf.Strings.Shaped
import Derived.Shelf.Strings.Split
import Derived.Shelf.Strings.SplitShaped
import Derived.Shelf.Strings.Runes
import Derived.Shelf.Strings.IndexAny
import Derived.Shelf.Strings.AsciiSet
import Derived.Shelf.Strings.IndexAnyAll
import Derived.Shelf.Unicode.DecodeSlow
import Derived.Test.YthfonniieaiocaaGreatDoorProg
import Derived.Lib.AppendIntMem
set_option linter.unusedVariables false
set_option linter.unusedSimpArgs false
namespace Go.Proofs.YthfonniieaiocaaGreatDoor
open Go.RowKit

def gsL (ps : List (List Int)) (k : Nat) : List (List Int) := (ps.take k).map grpN ++ ps.drop k
theorem gsL_at {ps : List (List Int)} {k : Nat} {p : List Int} (h : ps[k]? = some p) : (strs (gsL ps k))[k]? = some (.string (strOfNums p)) := by
  have hk : k < ps.length := (List.getElem?_eq_some_iff.1 h).1
  unfold strs gsL
  rw [List.getElem?_map, List.getElem?_append_right (by simp; omega)]
  simp [h, show min k ps.length = k by omega]
theorem gsL_set {ps : List (List Int)} {k : Nat} {p : List Int} (h : ps[k]? = some p) : (strs (gsL ps k)).set k (.string (strOfNums (grpN p))) = strs (gsL ps (k + 1)) := by
  have hk : k < ps.length := (List.getElem?_eq_some_iff.1 h).1
  have e1 : ps.drop k = p :: ps.drop (k + 1) := by rw [List.drop_eq_getElem_cons hk]; congr 1; exact Option.some.inj ((List.getElem?_eq_getElem hk).symm.trans h)
  have e2 : ps.take (k + 1) = ps.take k ++ [p] := take_succ_at h
  unfold strs gsL
  rw [e2, e1, List.map_append, List.map_append, List.map_append, List.map_cons]
  rw [List.set_append, if_neg (by simp; omega)]
  simp [show min k ps.length = k by omega]
def GrpR (w : World) (R : Option (List (List Int))) (e : Ending) (w' : World) : Prop := match R with
  | none => e = .returned (.tuple #[.slice none 0 0, .bool false]) ∧ Below w.heap.size w w'
  | some l => ∃ v, e = .returned (.tuple #[v, .bool true]) ∧ SXL w v l w'
theorem GrpR.bad {w w' : World} {R : Option (List (List Int))} (h : R = none) (hb : Below w.heap.size w w') : GrpR w R (.returned (.tuple #[.slice none 0 0, .bool false])) w' := by
  subst h; exact ⟨rfl, hb⟩
theorem GrpR.good {w w' : World} {R : Option (List (List Int))} {l : List (List Int)} {v : Value} (h : R = some l) (hb : SXL w v l w') : GrpR w R (.returned (.tuple #[v, .bool true])) w' := by
  subst h; exact ⟨v, rfl, hb⟩
theorem grp_no {s : List Int} {k : Nat} {p : List Int} (hp : (cutL 58 s)[k]? = some p) (h : grpOK p = false) : grpL s = none := by
  unfold grpL
  rw [if_neg]
  intro ha
  have := List.all_eq_true.1 ha p (List.mem_of_getElem? hp)
  rw [h] at this; cases this
set_option maxRecDepth 100000 in
set_option maxHeartbeats 4000000 in
theorem grouplist_any (s : ByteArray) (w : World) (hs : s.size ≤ 4000000) (hm : GM w) : Calls Tryz.prog 125 #[.string s] w (GrpR w (grpL (byteL s))) := by
  have SP := Lib.hid (split_any s 58 w hs hm)
  have PB := Lib.hid (cutL_by (sep := 58) (byteL_by s))
  have NO := Lib.hid (fun k p h h2 => grp_no (s := byteL s) (k := k) (p := p) h h2)
  have YES := Lib.hid (fun (h : (cutL 58 (byteL s)).all grpOK = true) => show grpL (byteL s) = some ((cutL 58 (byteL s)).map grpN) by unfold grpL; rw [if_pos h])
  have PL := Lib.hid (show ∀ p ∈ cutL 58 (byteL s), p.length ≤ s.size from fun p hp => by rw [← byteL_len]; exact ((cutL_sub 58 _).1 p hp).length_le)
  rw [show (((58 : UInt8)).toNat : Int) = 58 from rfl] at SP
  generalize grpL (byteL s) = R at *
  obtain ⟨ps, hps⟩ : ∃ ps, cutL 58 (byteL s) = ps := ⟨_, rfl⟩
  rw [hps] at PB NO YES PL
  have PSE := Lib.hid hps
  clear hps
  have PC := Lib.hid (show ps.length ≤ s.size + 1 from by rw [← PSE.out, ← byteL_len]; exact (cutL_sub 58 _).2)
  have ST := Lib.hid (Mine.refl w)
  clear hm
  go_enter Tryz.func125, Tryz.ntmps125
  go_wp2_with fail
  refine SP.out.mono ?_
  clear SP
  rintro e W0 ⟨zs, hz, rfl, rfl⟩
  have hz2 : zs = ps.map strOfNums := by rw [← PSE.out, ← hz, List.map_map]; exact (List.map_id _).symm.trans (List.map_congr_left fun z _ => (str_byteL z).symm)
  have hz3 : zs.map Value.string = strs ps := by rw [hz2, List.map_map]; rfl
  have hz4 : zs.length = ps.length := by rw [hz2, List.length_map]
  rw [hz3, hz4]
  clear hz hz2 hz3 hz4
  obtain ⟨n, hn⟩ : ∃ n, ps.length = n := ⟨_, rfl⟩
  rw [hn]
  have HN := Lib.hid hn
  have nl : n ≤ 4000001 := by have := PC.out; omega
  clear hn PC
  replace ST := Lib.hid (show Mine w (w.alloc (.cells (strs ps).toArray 9)) [(w.heap.size, 9, strs (gsL ps 0))] [] from ST.out.alloc 9 (strs ps))
  generalize w.alloc (.cells (strs ps).toArray 9) = W at *
  go_wp2_with fail
  go_loopw [14] (fun v wr => ∃ k : Nat, k ≤ n ∧ v = .int .i64 k ∧ Hid ((ps.take k).all grpOK = true) ∧ Hid (Mine w wr [(w.heap.size, 9, strs (gsL ps k))] [])) (fun v _ => n - (intOf v).toNat)
  case atStart => exact ⟨0, Nat.zero_le _, rfl, Lib.hid rfl, ST⟩
  case round =>
    clear ST
    obtain ⟨k, hk, rfl, OK, ST⟩ := hrel
    by_cases hlt : k < n
    · have hd : decide (k < n) = true := by simp [hlt]
      have hd2 : decide ((k : Int) < (n : Int)) = true := by simp; omega
      have i0 : (0 : Int) ≤ (k : Int) := by omega
      have i1 : (k : Int) < (n : Int) := by omega
      obtain ⟨p, hp⟩ : ∃ p, ps[k]? = some p := ⟨_, List.getElem?_eq_getElem (by rw [HN.out]; exact hlt)⟩
      have cx := ((ST.out.row (i := 0) rfl).cell k).trans (gsL_at hp)
      have fx := (ST.out.row (i := 0) rfl).frozen k
      have pb := PB.out p (List.mem_of_getElem? hp)
      have pl := PL.out p (List.mem_of_getElem? hp)
      have SET := Lib.hid (gsL_set hp)
      have CX := Lib.hid (gsL_at hp)
      have BAD := Lib.hid (NO.out k p hp)
      have NXT := Lib.hid (fun (h : grpOK p = true) => show (ps.take (k + 1)).all grpOK = true by rw [take_succ_at hp, List.all_append, OK.out]; simp [h])
      clear hp
      obtain ⟨g, hg⟩ : ∃ g, strOfNums p = g := ⟨_, rfl⟩
      have gX : byteL g = p := by rw [← hg]; exact byteL_str pb
      have gS : p.length = g.size := by rw [← gX, byteL_len]
      rw [hg] at cx
      clear hg
      subst gX
      have HL := Lib.hid (byteL_len g)
      have HB := Lib.hid pb
      have IDX := Lib.hid (fun (i : Nat) (h : i < g.size) (w : World) => idx_str g (i := i) h (z := (i : Int)) rfl w)
      have LW := Lib.hid (adlower_any g wr (by rw [← HL.out]; omega))
      have GN := Lib.hid (show grpN (byteL g) = if (lowS (byteL g)).dropWhile (· == 48) = [] then [48] else (lowS (byteL g)).dropWhile (· == 48) from rfl)
      have GO := Lib.hid (show grpOK (byteL g) = ((decide (1 ≤ (byteL g).length) && decide ((byteL g).length ≤ 4)) && (byteL g).all hexB) from rfl)
      have LB := Lib.hid (lowS_by pb)
      rw [HL.out] at GO
      clear pb pl gS
      generalize grpN (byteL g) = gn at *
      generalize grpOK (byteL g) = go at *
      generalize lowS (byteL g) = lw at *
      generalize byteL g = X at *
      by_cases h1 : g.size < 1
      · have d1 : decide ((g.size : Int) < 1) = true := by simp; omega
        have d3 : decide (1 ≤ g.size) = false := decide_eq_false (by omega)
        have E := Lib.hid (BAD.out (by rw [GO.out, d3]; rfl))
        go_wp2_with fail
        go_ret2
        exact GrpR.bad E.out ST.out.bw
      have d1 : decide ((g.size : Int) < 1) = false := by simp; omega
      by_cases h2 : 4 < g.size
      · have d2 : decide ((4 : Int) < (g.size : Int)) = true := by simp; omega
        have d3 : decide (g.size ≤ 4) = false := decide_eq_false (by omega)
        have E := Lib.hid (BAD.out (by rw [GO.out, d3, Bool.and_false]; rfl))
        go_wp2_with fail
        go_ret2
        exact GrpR.bad E.out ST.out.bw
      have d2 : decide ((4 : Int) < (g.size : Int)) = false := by simp; omega
      have GO2 := Lib.hid (show go = X.all hexB by rw [GO.out, decide_eq_true (show 1 ≤ g.size by omega), decide_eq_true (show g.size ≤ 4 by omega)]; rfl)
      clear GO
      go_wp2_with fail
      have g4 : g.size ≤ 4 := by omega
      clear d1 d2 h1 h2
      obtain ⟨wo, rfl⟩ : ∃ wo : World, wo = wr := ⟨_, rfl⟩
      go_loopw [29] (fun v wr => ∃ j : Nat, j ≤ g.size ∧ v = .int .i64 j ∧ Hid ((X.take j).all hexB = true) ∧ wr = wo) (fun v _ => g.size - (intOf v).toNat)
      case atStart => exact ⟨0, Nat.zero_le _, rfl, Lib.hid rfl, rfl⟩
      case round =>
        obtain ⟨j, hj, rfl, HJ, rfl⟩ := hrel
        by_cases hjt : j < g.size
        · have e1 : decide ((j : Int) < (g.size : Int)) = true := by simp; omega
          have dx := IDX.out j hjt
          have hjX : j < X.length := by rw [HL.out]; exact hjt
          have hx := HB.out _ (getD_mem hjX)
          have BD2 := Lib.hid (fun h => all_no (p := hexB) hjX h)
          have NX2 := Lib.hid (fun (h : hexB (X.getD j 0) = true) => show (X.take (j + 1)).all hexB = true by rw [all_take_succ hjX, HJ.out, h]; rfl)
          have HD := Lib.hid (hexdigit_any (X.getD j 0) wr hx.1 hx.2)
          clear hjX
          generalize X.getD j 0 = x at *
          generalize hexN x = hn at *
          cases hb : hexB x with
          | false =>
            have E := Lib.hid (BAD.out (by rw [GO2.out, BD2.out hb]))
            rw [hb] at HD
            clear BD2 NX2
            go_wp2_with (go_at_call 122; refine HD.out.mono ?_; rintro e w' ⟨rfl, rfl⟩)
            go_ret2
            exact GrpR.bad E.out ST.out.bw
          | true =>
            have N := Lib.hid (NX2.out hb)
            rw [hb] at HD
            clear BD2 NX2
            go_wp2_with (go_at_call 122; refine HD.out.mono ?_; rintro e w' ⟨rfl, rfl⟩)
            go_roundw
            case rel => exact ⟨j + 1, by omega, by go_num, N, by first | rfl | trivial⟩
            case measure => simp [intOf]; omega
        · obtain rfl : j = g.size := by omega
          have e1 : decide ((g.size : Int) < (g.size : Int)) = false := by simp
          have OKp := Lib.hid (NXT.out (by rw [GO2.out]; have := HJ.out; rwa [List.take_of_length_le (by rw [HL.out]; exact Nat.le_refl _)] at this))
          clear HJ BAD NXT GO2 IDX HB
          go_wp2_with fail
          refine LW.out.mono ?_
          rintro e W2 ⟨rfl, hbl⟩
          replace ST := Lib.hid (ST.out.call hbl)
          clear hbl LW cx fx
          have cx := ((ST.out.row (i := 0) rfl).cell k).trans CX.out
          have fx := (ST.out.row (i := 0) rfl).frozen k
          obtain ⟨t, ht⟩ : ∃ t, lw.dropWhile (· == 48) = t := ⟨_, rfl⟩
          rw [ht] at GN
          have TB : By t := by rw [← ht]; exact LB.out.sub (List.dropWhile_sublist _)
          have TR := Lib.hid (show Calls Tryz.prog 161 #[.string (strOfNums lw), .string ⟨#[48]⟩] W2 fun e w' => e = .returned (.string (strOfNums t)) ∧ W2 = w' by
            have h := trim0_any (strOfNums lw) W2
            rwa [byteL_str LB.out, ht] at h)
          have q := lit_beq TB []
          clear ht LB
          by_cases h0 : t = []
          · subst h0
            have GE : gn = [48] := by rw [GN.out, if_pos rfl]
            subst GE
            go_wp2_with (go_at_call 161; refine TR.out.mono ?_; rintro e w' ⟨rfl, rfl⟩)
            go_roundw
            case rel => exact ⟨k + 1, by omega, by go_num, OKp, Lib.hid (ST.out.setCell (i := 0) (off := k) (.string (strOfNums [48])) rfl (by rw [SET.out]; rfl))⟩
            case measure => simp [intOf]; omega
          · have GE : gn = t := by rw [GN.out, if_neg h0]
            subst GE
            have q2 : ((strOfNums gn).toList == ([] : List UInt8)) = false := by
              rw [q, beq_eq_false_iff_ne]
              exact fun h => h0 h.symm
            clear q h0
            go_wp2_with (go_at_call 161; refine TR.out.mono ?_; rintro e w' ⟨rfl, rfl⟩)
            go_roundw
            case rel => exact ⟨k + 1, by omega, by go_num, OKp, Lib.hid (ST.out.setCell (i := 0) (off := k) (.string (strOfNums gn)) rfl (by rw [SET.out]; rfl))⟩
            case measure => simp [intOf]; omega
    · obtain rfl : k = n := by omega
      have E := Lib.hid (YES.out (by have := OK.out; rwa [List.take_of_length_le (by rw [HN.out]; exact Nat.le_refl _)] at this))
      have V := Lib.hid (show SXL w (.slice (some ⟨w.heap.size, 0, none⟩) k k) (ps.map grpN) wr by
        have r := ST.out.row (i := 0) rfl
        have e : gsL ps k = ps.map grpN := by
          unfold gsL
          rw [List.take_of_length_le (by rw [HN.out]; exact Nat.le_refl _), List.drop_of_length_le (by rw [HN.out]; exact Nat.le_refl _), List.append_nil]
        rw [e] at r
        have hl : (ps.map grpN).length = k := by rw [List.length_map]; exact HN.out
        show VX 9 1 w _ (ps.map grpN).length _ wr
        rw [hl]
        exact ⟨⟨by rw [strs_len, hl, Nat.mul_one], .inr ⟨w.heap.size, k, (strs (ps.map grpN)).toArray, rfl, Nat.le_refl _, r, Nat.le_refl _, by unfold maxLen; omega, by simp [strs_len, hl], by rw [Nat.mul_one, ← hl, ← strs_len]; simp⟩⟩, ST.out.bw⟩)
      go_wp2_with fail
      go_ret2
      exact GrpR.good E.out V.out
end Go.Proofs.YthfonniieaiocaaGreatDoor
namespace Go.Proofs.YthfonniieaiocaaGreatDoor
open Go.RowKit

def mkH (n : Nat) : List Value := (madeCells #[.string ⟨#[]⟩, .string ⟨#[]⟩] (n * 2)).toList
end Go.Proofs.YthfonniieaiocaaGreatDoor
namespace Go.Proofs.YthfonniieaiocaaGreatDoor
open Go.RowKit

theorem Mine.grown {w0 w w' : World} {L : List Blk} {FS : List (World → Prop)} {b : Nat} {T : TypeId} {vs : List Value} (h : Mine w0 w ((b, T, vs) :: L) FS) (hg : w.grownBy w' (some b)) : Mine w0 w' L FS := by
  have hb0 : w0.heap.size ≤ b := h.ge (i := 0) rfl
  have hnd := h.nd
  rw [List.map_cons, List.nodup_cons] at hnd
  refine ⟨h.bw.grown hg h.bw.size (fun k hk => by injection hk with hk; omega), fun r hr => ?_, hnd.2, fun G hG => ?_⟩
  · obtain ⟨h1, h2⟩ := h.rows r (List.mem_cons_of_mem _ hr)
    refine ⟨h1.heap (hg.block _ h1.lt (fun e => ?_)), h2⟩
    injection e with e
    exact hnd.1 (List.mem_map.2 ⟨r, hr, e⟩)
  · exact ((h.fs G hG).step ⟨hg.os, hg.tape, hg.output, hg.size, fun k hk hn => hg.block k hk (fun e => by
      injection e with e
      exact hn (by simp [e]))⟩).wider (fun k _ hk hm => hk (by simp [hm]))
def fullS (s : ByteArray) : ByteArray := match canonL (byteL s) with
  | some x => strOfNums x
  | none => s
end Go.Proofs.YthfonniieaiocaaGreatDoor
namespace Go.Proofs.YthfonniieaiocaaGreatDoor
open Go.RowKit

def setL (l : List (ByteArray × ByteArray)) (nm v : ByteArray) : List (ByteArray × ByteArray) := l ++ [(fullS nm, v)]
end Go.Proofs.YthfonniieaiocaaGreatDoor
namespace Go.Proofs
open Go.Shelf
def Tryz.laysM171_ren : Go.Shelf.Ren := ⟨fun | 171 => 91 | 243 => 151 | 246 => 181 | 283 => 200 | 284 => 201 | 285 => 202 | 286 => 203 | 129 => 212 | 317 => 211 | 318 => 213 | 319 => 214 | 320 => 215 | 337 => 217 | 338 => 218 | n => n, fun | 3 => 3 | 9 => 9 | 2 => 2 | 4 => 4 | 171 => 182 | 0 => 0 | 53 => 183 | 37 => 69 | 5 => 5 | 173 => 186 | 212 => 194 | 51 => 190 | 20 => 20 | 213 => 195 | 46 => 70 | 232 => 202 | 233 => 203 | n => n, fun | 17 => 2 | 18 => 5 | 19 => 6 | n => n⟩
theorem Tryz.laysM171 : Go.Proofs.LaysM.n171 Tryz.prog Tryz.laysM171_ren := {
  mixed := by kernel_rfl
  f129 := Tryz.func212.trans (congrArg some (by kernel_rfl))
  f171 := Tryz.func91.trans (congrArg some (by kernel_rfl))
  f243 := Tryz.func151.trans (congrArg some (by kernel_rfl))
  f246 := Tryz.func181.trans (congrArg some (by kernel_rfl))
  f283 := Tryz.func200.trans (congrArg some (by kernel_rfl))
  f284 := Tryz.func201.trans (congrArg some (by kernel_rfl))
  f285 := Tryz.func202.trans (congrArg some (by kernel_rfl))
  f286 := Tryz.func203.trans (congrArg some (by kernel_rfl))
  f317 := Tryz.func211.trans (congrArg some (by kernel_rfl))
  f318 := Tryz.func213.trans (congrArg some (by kernel_rfl))
  f319 := Tryz.func214.trans (congrArg some (by kernel_rfl))
  f320 := Tryz.func215.trans (congrArg some (by kernel_rfl))
  f337 := Tryz.func217.trans (congrArg some (by kernel_rfl))
  f338 := Tryz.func218.trans (congrArg some (by kernel_rfl))
  t0 := Tryz.underlying0
  a0 := Tryz.isAgg0
  z0 := Tryz.sizeOf0
  v0 := Tryz.zeroValue0
  t2 := Tryz.underlying2
  a2 := Tryz.isAgg2
  z2 := Tryz.sizeOf2
  v2 := Tryz.zeroValue2
  t3 := Tryz.underlying3
  a3 := Tryz.isAgg3
  z3 := Tryz.sizeOf3
  v3 := Tryz.zeroValue3
  t4 := Tryz.underlying4
  a4 := Tryz.isAgg4
  z4 := Tryz.sizeOf4
  v4 := Tryz.zeroValue4
  t5 := Tryz.underlying5
  a5 := Tryz.isAgg5
  z5 := Tryz.sizeOf5
  v5 := Tryz.zeroValue5
  t9 := Tryz.underlying9
  a9 := Tryz.isAgg9
  z9 := Tryz.sizeOf9
  v9 := Tryz.zeroValue9
  t20 := Tryz.underlying20
  a20 := Tryz.isAgg20
  z20 := Tryz.sizeOf20
  v20 := Tryz.zeroValue20
  t37 := Tryz.underlying69
  a37 := Tryz.isAgg69
  z37 := Tryz.sizeOf69
  v37 := Tryz.zeroValue69
  t46 := Tryz.underlying70
  a46 := Tryz.isAgg70
  z46 := Tryz.sizeOf70
  v46 := Tryz.zeroValue70
  t51 := Tryz.underlying190
  a51 := Tryz.isAgg190
  z51 := Tryz.sizeOf190
  v51 := Tryz.zeroValue190
  t53 := Tryz.underlying183
  a53 := Tryz.isAgg183
  z53 := Tryz.sizeOf183
  v53 := Tryz.zeroValue183
  t171 := Tryz.underlying182
  a171 := Tryz.isAgg182
  z171 := Tryz.sizeOf182
  v171 := Tryz.zeroValue182
  t173 := Tryz.underlying186
  a173 := Tryz.isAgg186
  z173 := Tryz.sizeOf186
  v173 := Tryz.zeroValue186
  t212 := Tryz.underlying194
  a212 := Tryz.isAgg194
  z212 := Tryz.sizeOf194
  v212 := Tryz.zeroValue194
  t213 := Tryz.underlying195
  a213 := Tryz.isAgg195
  z213 := Tryz.sizeOf195
  t232 := Tryz.underlying202
  a232 := Tryz.isAgg202
  z232 := Tryz.sizeOf202
  v232 := Tryz.zeroValue202
  t233 := Tryz.underlying203
  a233 := Tryz.isAgg203
  z233 := Tryz.sizeOf203
  v233 := Tryz.zeroValue203
  g17 := by kernel_rfl
  g18 := by kernel_rfl
  g19 := by kernel_rfl
  i0 := by kernel_rfl
  i2 := by kernel_rfl
  i3 := by kernel_rfl
  i4 := by kernel_rfl
  i5 := by kernel_rfl
  i9 := by kernel_rfl
  i20 := by kernel_rfl
  i37 := by kernel_rfl
  i46 := by kernel_rfl
  i51 := by kernel_rfl
  i53 := by kernel_rfl
  i171 := by kernel_rfl
  i173 := by kernel_rfl
  i212 := by kernel_rfl
  i232 := by kernel_rfl
  i233 := by kernel_rfl
  m17 := by kernel_rfl
  m18 := by kernel_rfl
  m19 := by kernel_rfl }
open Go.RowKit Go.Sort Go.Lib in
/-- strconv.Itoa: "Itoa is equivalent to FormatInt(int64(i), 10).": i's DECIMAL NUMERAL ('Lib.itoa': a '-' where i is negative, then the digits), FOR EVERY int. The world behind the call: the world before it, new blocks behind the heap (the library's 'var a [24]byte'), draws. (LAID: no walk: one application.) -/
theorem Tryz.strconv_Itoa (n : Int) (h0 : -9223372036854775808 ≤ n) (h1 : n ≤ 9223372036854775807) (w : World) (htab : Lib.TabIs Tryz.prog w "internal/strconv.uint64pow10" .u64 Lib.pow10Tab) :
    Calls Tryz.prog 91 #[.int .i64 n] w fun e w' => e = .returned (.string ⟨(Lib.itoa n).toArray⟩) ∧ ∃ k os, w' = grow (w.drewN k) os := Any.strconv_Itoa Tryz.laysM171 n h0 h1 w htab
def Tryz.lays171_ren : Go.Shelf.Ren := ⟨fun | 171 => 91 | 243 => 151 | 246 => 181 | 283 => 200 | 284 => 201 | 285 => 202 | 286 => 203 | 129 => 212 | 317 => 211 | 318 => 213 | 319 => 214 | 320 => 215 | 337 => 217 | 338 => 218 | n => n, fun | 3 => 3 | 9 => 9 | 2 => 2 | 4 => 4 | 171 => 182 | 0 => 0 | 53 => 183 | 37 => 69 | 5 => 5 | 173 => 186 | 212 => 194 | 51 => 190 | 20 => 20 | 213 => 195 | 46 => 70 | 232 => 202 | 233 => 203 | n => n, fun | 17 => 2 | 18 => 5 | 19 => 6 | n => n⟩
end Go.Proofs
namespace Go.Proofs.YthfonniieaiocaaGreatDoor
open Go.RowKit

def PT (w : World) : Prop := Lib.TabIs Tryz.prog w "internal/strconv.uint64pow10" .u64 Lib.pow10Tab
theorem PT.below {w w' : World} (h : PT w) (hb : Below w.heap.size w w') : PT w' := Lib.tabBelow_of_tabIs h w' hb
theorem itoa_any (n : Int) (w : World) (h0 : 0 ≤ n) (h1 : n ≤ 9223372036854775807) (hP : PT w) : Calls Tryz.prog 91 #[.int .i64 n] w fun e w' => e = .returned (.string (strOfNums (decL n))) ∧ Below w.heap.size w w' :=
  (Tryz.strconv_Itoa n (by omega) h1 w hP).mono fun e w' ⟨he, k, os, hw⟩ => ⟨by rw [he, mk_str (rfl : bl (Lib.itoa n) = bl (Lib.itoa n))]; rfl, by rw [hw]; exact Lib.below_grow _ _ (Nat.le_refl _) _ _⟩
abbrev RFL : ByteArray := ⟨#[59, 114, 101, 102, 114, 101, 115, 104, 101, 114, 61]⟩
def UAX (c : Bool) : ByteArray := if c = true then ⟨#[117, 97, 99]⟩ else ⟨#[117, 97, 115]⟩
def hdrV (N : Int) (c : Bool) : ByteArray := strOfNums (decL N ++ TAIL c)
abbrev MINB : ByteArray := ⟨#[77, 105, 110, 45, 83, 69]⟩
end Go.Proofs.YthfonniieaiocaaGreatDoor
