/- Contracts: the reference's SameParams, Same, SameAddress; slices.Equal of parameters. And what stands behind it. -/
import Derived.Test.YthfonniieaiocaaGreatDoorUx
import Derived.Test.YthfonniieaiocaaGreatDoorVc
import Derived.Test.YthfonniieaiocaaGreatDoorUq
import Derived.Laws.StructEq
import Derived.BigQuiet
import Derived.Shelf.Strings.Builder1
import Derived.Shelf.Strings.Builder2
import Derived.Shelf.Strings.OnBuilder
import Derived.Shelf.Strings.Trim
import Derived.Shelf.Small.Utf8
import Derived.Shelf.Small.Strs
import Derived.Shelf.Small.Wraps
import Derived.Shelf.Strings.BuilderF
import Derived.Shelf.Strings.BuilderK
import Derived.Shelf.Strings.Builder2Cap
import Derived.Shelf.Strconv.Itoa0
import Derived.Shelf.Strconv.Itoa1
import Derived.Shelf.LaysM
import Derived.Shelf.Strconv.Itoa2
import Derived.Shelf.Strconv.Itoa3
import Derived.Shelf.Strings.Search1
import Derived.Shelf.Strings.Search2
import Derived.Shelf.Strings.Search3
import Derived.Shelf.Strings.Cut
import Derived.Shelf.Strings.Count
import Derived.Shelf.Strings.Shaped
import Derived.Shelf.Strings.Prefix
import Derived.Shelf.Strings.Split
import Derived.Shelf.Strings.SplitShaped
import Derived.Shelf.Unicode.Decode
import Derived.Shelf.Strings.Runes
import Derived.Shelf.Strings.RuneCount
import Derived.Shelf.Strings.IndexAny
import Derived.Shelf.Strings.AsciiSet
import Derived.Shelf.Strings.IndexAnyAll
import Derived.Shelf.Strings.Explode
import Derived.Shelf.Unicode.DecodeSlow
import Derived.Shelf.Unicode.DecodeAny
import Derived.Shelf.Strings.BuilderCap
import Derived.Test.YthfonniieaiocaaGreatDoorProg
import Derived.Test.YthfonniieaiocaaGreatDoorUm
import Derived.Lib.AppendStr
set_option linter.unusedVariables false
set_option linter.unusedSimpArgs false
set_option maxRecDepth 100000
set_option maxHeartbeats 2000000
namespace Go.Proofs.YthfonniieaiocaaGreatDoor
open Go.RowKit

theorem underP : Tryz.prog.underlying 56 = some (.struct (Tryz.prog.fieldsOf 56)) := by kernel_rfl
theorem stoodP : Tryz.prog.stoodInHeld 56 = false := by kernel_rfl
theorem guardP : Tryz.prog.eqGuardType Tryz.prog.depth 56 = false := by kernel_rfl
theorem neq_pm (a b a' b' : ByteArray) (h h' : Bool) (w : World) :
    (binOp .neq 56 (.agg #[.string a, .string b, .bool h]) (.agg #[.string a', .string b', .bool h'])).run Tryz.prog w = .ok (.bool (!(((a.toList == a'.toList) && (b.toList == b'.toList)) && (h == h')))) w := by
  have u3 := Tryz.underlying9
  have a3 := Tryz.isAgg9
  have z3 := Tryz.sizeOf9
  have u4 := Tryz.underlying4
  have a4 := Tryz.isAgg4
  have z4 := Tryz.sizeOf4
  rw [run_neq_struct, show (10000 : Nat) = 9999 + 1 from rfl, run_equalIn_agg w 9999 56 _ _ underP stoodP]
  simp only [Program.fieldsOf, Tryz.underlying56]
  go_simp
  by_cases h1 : a.toList = a'.toList <;> by_cases h2 : b.toList = b'.toList <;> by_cases h3 : h = h' <;> simp [h1, h2, h3]
@[go_sem] theorem guard_pm (op : BinOp) (x y : Operand) (a b a' b' : ByteArray) (h h' : Bool) (w : World) :
    (eqGuard op 56 x y (.agg #[.string a, .string b, .bool h]) (.agg #[.string a', .string b', .bool h'])).run Tryz.prog w = .ok () w := run_eqGuard_agg w op _ x y _ _ guardP
def pmE (p q : Pm) : Bool := ((p.n == q.n) && (p.v == q.v)) && (p.h == q.h)
theorem pmE_iff {p q : Pm} : pmE p q = true ↔ p = q := by
  obtain ⟨a, b, c⟩ := p
  obtain ⟨a', b', c'⟩ := q
  unfold pmE
  simp only [Bool.and_eq_true, beq_iff_eq]
  constructor
  · rintro ⟨⟨rfl, rfl⟩, rfl⟩; rfl
  · intro h; cases h; exact ⟨⟨rfl, rfl⟩, rfl⟩
theorem same_drop {l m : List Pm} {j : Nat} {p q : Pm} (h1 : l[j]? = some p) (h2 : m[j]? = some q) : samePs (l.drop j) (m.drop j) = (pmE p q && samePs (l.drop (j + 1)) (m.drop (j + 1))) := by
  rw [dropPm h1, dropPm h2, Bool.eq_iff_iff, Bool.and_eq_true, samePs_iff, pmE_iff, samePs_iff]
  exact ⟨fun h => by injection h with h1 h2; exact ⟨h1, h2⟩, fun ⟨h1, h2⟩ => by rw [h1, h2]⟩
theorem same_len {l m : List Pm} (h : l.length ≠ m.length) : samePs l m = false := by
  cases hs : samePs l m with
  | false => rfl
  | true => exact absurd (by rw [samePs_iff.1 hs]) h
theorem pmE_str {p q : Pm} (h1 : By p.n ∧ By p.v) (h2 : By q.n ∧ By q.v) : (((strOfNums p.n).toList == (strOfNums q.n).toList) && ((strOfNums p.v).toList == (strOfNums q.v).toList) && (p.h == q.h)) = pmE p q := by
  rw [toList_beq h1.1 h2.1, toList_beq h1.2 h2.2]; rfl
theorem samepms_any (A B : Option Addr) (n c m d : Nat) (l k : List Pm) (w : World) (hA : Rds w w.heap.size A (pms l)) (hB : Rds w w.heap.size B (pms k)) (hn : l.length = n) (hm : k.length = m) (hN : n ≤ 16000000) (hM : m ≤ 16000000) (hl : PmBy l) (hk : PmBy k) :
    Calls Tryz.prog 41 #[.slice A n c, .slice B m d] w fun e w' => e = .returned (.bool (samePs l k)) ∧ ∃ q, w' = w.drewN q := by
  have HA := kd hA; have HB := kd hB; have HN := kd hn; have HM := kd hm; have HL := kd hl; have HK := kd hk
  obtain ⟨R, hR⟩ : ∃ R, samePs l k = R := ⟨_, rfl⟩
  rw [hR]
  have HR := kd hR
  clear hA hB hn hm hl hk hR
  go_enter Tryz.func41, Tryz.ntmps41
  by_cases hnm : n = m
  · have d0 : decide ((n : Int) = (m : Int)) = true := by simp; omega
    have d0' : ((n : Int) == (m : Int)) = true := by simp; omega
    have d0'' : ((n : Int) != (m : Int)) = false := by simp; omega
    go_wp2_with fail
    go_loopw [5] (fun v wr => ∃ j q : Nat, j ≤ n ∧ v = .int .i64 j ∧ wr = w.drewN q ∧ Hid (R = samePs (l.drop j) (k.drop j))) (fun v _ => n - (intOf v).toNat)
    case atStart => exact ⟨0, 0, Nat.zero_le _, rfl, rfl, kd (by rw [List.drop_zero, List.drop_zero, HR.out])⟩
    case round =>
      obtain ⟨j, q, hj, rfl, rfl, RJ⟩ := hrel
      by_cases hlt : j < n
      · obtain ⟨p, hp⟩ : ∃ p, l[j]? = some p := ⟨_, List.getElem?_eq_getElem (by rw [HN.out]; exact hlt)⟩
        obtain ⟨p', hp'⟩ : ∃ p, k[j]? = some p := ⟨_, List.getElem?_eq_getElem (by rw [HM.out]; omega)⟩
        obtain ⟨x1, o1, rfl, hx1, hc1⟩ := HA.out (by rw [pms_len, HN.out]; omega)
        obtain ⟨x2, o2, rfl, hx2, hc2⟩ := HB.out (by rw [pms_len, HM.out]; omega)
        have G1 := kd (show w.rangeAt x1 (o1 + j * 3) (pmC p) from Rds.range2 hc1 (j * 3) _ (pms_at hp))
        have G2 := kd (show w.rangeAt x2 (o2 + j * 3) (pmC p') from Rds.range2 hc2 (j * 3) _ (pms_at hp'))
        have RN := kd (RJ.out.trans (same_drop hp hp'))
        have ES := pmE_str (HL.out p (List.mem_of_getElem? hp)) (HK.out p' (List.mem_of_getElem? hp'))
        have hd : decide (j < n) = true := by simp [hlt]
        have hd2 : decide ((j : Int) < (n : Int)) = true := by simp; omega
        have hjm : j < m := by omega
        clear hc1 hc2 hp hp' hx1 hx2 RJ
        obtain ⟨pn, pv, ph⟩ := p
        obtain ⟨qn, qv, qh⟩ := p'
        dsimp only at ES
        have g1 : w.cell? ⟨x1, o1 + j * 3, none⟩ = some (.string (strOfNums pn)) := G1.out 0 _ rfl
        have g2 : w.cell? ⟨x1, o1 + j * 3 + 1, none⟩ = some (.string (strOfNums pv)) := G1.out 1 _ rfl
        have g3 : w.cell? ⟨x1, o1 + j * 3 + 2, none⟩ = some (.bool ph) := G1.out 2 _ rfl
        have g4 : w.cell? ⟨x2, o2 + j * 3, none⟩ = some (.string (strOfNums qn)) := G2.out 0 _ rfl
        have g5 : w.cell? ⟨x2, o2 + j * 3 + 1, none⟩ = some (.string (strOfNums qv)) := G2.out 1 _ rfl
        have g6 : w.cell? ⟨x2, o2 + j * 3 + 2, none⟩ = some (.bool qh) := G2.out 2 _ rfl
        generalize pmE ⟨pn, pv, ph⟩ ⟨qn, qv, qh⟩ = E at *
        generalize strOfNums pn = a at *
        generalize strOfNums pv = b at *
        generalize strOfNums qn = a' at *
        generalize strOfNums qv = b' at *
        clear G1 G2
        have NQ := kd (fun w => (neq_pm a b a' b' ph qh w).trans (by rw [ES]))
        clear ES
        go_wp2_with fail
        have NQ := NQ.out
        cases E with
        | false =>
          have F := kd (show R = false from RN.out)
          clear RN
          go_quiet (fail)
          go_wp2_with fail
          go_ret
          exact ⟨by rw [F.out]; rfl, _, World.drewN_drewN _ _ _⟩
        | true =>
          have F := kd (show R = samePs (l.drop (j + 1)) (k.drop (j + 1)) from RN.out)
          clear RN
          go_quiet (fail)
          go_wp2_with fail
          go_roundw
          case rel => exact ⟨j + 1, _, by omega, by go_num, rfl, F⟩
          case measure => simp [intOf]; omega
      · obtain rfl : j = n := by omega
        have F := kd (show R = true by
          have h1 : l.drop j = [] := List.drop_eq_nil_of_le (by rw [HN.out]; exact Nat.le_refl _)
          have h2 : k.drop j = [] := List.drop_eq_nil_of_le (by rw [HM.out]; omega)
          rw [RJ.out, h1, h2]; rfl)
        clear RJ
        go_wp2_with fail
        go_ret
        exact ⟨by rw [F.out]; rfl, _, rfl⟩
  · have F := kd (show R = false from HR.out.symm.trans (same_len (by rw [HN.out, HM.out]; exact hnm)))
    have d0'' : ((n : Int) != (m : Int)) = true := by simp; omega
    go_wp2_with fail
    go_ret
    exact ⟨by rw [F.out]; rfl, 0, rfl⟩
theorem two_rows (w : World) (T T' : TypeId) (xs ys : List Value) : Row ((w.alloc (.cells xs.toArray T)).alloc (.cells ys.toArray T')) w.heap.size T xs ∧ Row ((w.alloc (.cells xs.toArray T)).alloc (.cells ys.toArray T')) (w.heap.size + 1) T' ys ∧ Below w.heap.size w ((w.alloc (.cells xs.toArray T)).alloc (.cells ys.toArray T')) := by
  refine ⟨(Row.new w T xs).alloc _, ?_, ?_⟩
  · have := Row.new (w.alloc (.cells xs.toArray T)) T' ys
    rw [show (w.alloc (.cells xs.toArray T)).heap.size = w.heap.size + 1 by simp] at this
    exact this
  · exact ((Below.refl w.heap.size w).alloc (Nat.le_refl _) _).alloc (by simp) _
theorem sameU_eq (u v : Uri) : sameU u v = (((((u.sc == v.sc) && (u.us == v.us)) && (u.ho == v.ho)) && decide (u.po = v.po)) && samePs u.ps v.ps && samePs u.hs v.hs) := rfl
theorem same_any (u v : Uri) (A1 A2 B1 B2 : Option Addr) (n1 n2 m1 m2 c1 c2 d1 d2 : Nat) (w : World) (hu : UriBy u) (hv : UriBy v)
    (e1 : u.ps.length = n1) (e2 : u.hs.length = n2) (e3 : v.ps.length = m1) (e4 : v.hs.length = m2)
    (hA1 : Rds w w.heap.size A1 (pms u.ps)) (hA2 : Rds w w.heap.size A2 (pms u.hs)) (hB1 : Rds w w.heap.size B1 (pms v.ps)) (hB2 : Rds w w.heap.size B2 (pms v.hs)) (l1 : n1 ≤ 16000000) (l2 : n2 ≤ 16000000) (l3 : m1 ≤ 16000000) (l4 : m2 ≤ 16000000) :
    Calls Tryz.prog 25 #[.agg #[.string (strOfNums u.sc), .string (strOfNums u.us), .string (strOfNums u.ho), .int .i64 u.po, .slice A1 n1 c1, .slice A2 n2 c2], .agg #[.string (strOfNums v.sc), .string (strOfNums v.us), .string (strOfNums v.ho), .int .i64 v.po, .slice B1 m1 d1, .slice B2 m2 d2]] w fun e w' => e = .returned (.bool (sameU u v)) ∧ Below w.heap.size w w' := by
  have E1 := toList_beq hu.sc hv.sc
  have E2 := toList_beq hu.us hv.us
  have E3 := toList_beq hu.ho hv.ho
  have P1 := kd (fun w' (hb : Below w.heap.size w w') => samepms_any A1 B1 n1 c1 m1 d1 u.ps v.ps w' ((hA1.below hb).up hb.size) ((hB1.below hb).up hb.size) e1 e3 l1 l3 hu.ps hv.ps)
  have P2 := kd (fun w' (hb : Below w.heap.size w w') => samepms_any A2 B2 n2 c2 m2 d2 u.hs v.hs w' ((hA2.below hb).up hb.size) ((hB2.below hb).up hb.size) e2 e4 l2 l4 hu.hs hv.hs)
  rw [sameU_eq]
  have D := kd (decide_eq_true_iff (p := u.po = v.po))
  clear hu hv hA1 hA2 hB1 hB2 e1 e2 e3 e4 l1 l2 l3 l4
  obtain ⟨sc, us, ho, po, ps, hs⟩ := u
  obtain ⟨sc', us', ho', po', ps', hs'⟩ := v
  dsimp only at E1 E2 E3 P1 P2 D ⊢
  generalize (sc == sc') = b1 at *
  generalize (us == us') = b2 at *
  generalize (ho == ho') = b3 at *
  generalize samePs ps ps' = b5 at *
  generalize samePs hs hs' = b6 at *
  generalize strOfNums sc = x1 at *
  generalize strOfNums us = x2 at *
  generalize strOfNums ho = x3 at *
  generalize strOfNums sc' = y1 at *
  generalize strOfNums us' = y2 at *
  generalize strOfNums ho' = y3 at *
  go_enter Tryz.func25, Tryz.ntmps25
  obtain ⟨R1, R2, HB⟩ := two_rows w 32 32 [.string x1, .string x2, .string x3, .int .i64 po, .slice A1 n1 c1, .slice A2 n2 c2] [.string y1, .string y2, .string y3, .int .i64 po', .slice B1 m1 d1, .slice B2 m2 d2]
  have R1 := kd R1
  have R2 := kd R2
  have HB := kd HB
  go_upto_region 1 with (fail)
  generalize (w.alloc (.cells #[.string x1, .string x2, .string x3, .int .i64 po, .slice A1 n1 c1, .slice A2 n2 c2] 32)).alloc (.cells #[.string y1, .string y2, .string y3, .int .i64 po', .slice B1 m1 d1, .slice B2 m2 d2] 32) = w2 at *
  generalize w.heap.size + 1 = g2 at *
  generalize hg : w.heap.size = g1 at *
  have k10 : w2.cell? ⟨g1, 0, none⟩ = some (.string x1) := R1.out.cell 0
  have k11 : w2.cell? ⟨g1, 1, none⟩ = some (.string x2) := R1.out.cell 1
  have k12 : w2.cell? ⟨g1, 2, none⟩ = some (.string x3) := R1.out.cell 2
  have k13 : w2.cell? ⟨g1, 3, none⟩ = some (.int .i64 po) := R1.out.cell 3
  have k14 : w2.cell? ⟨g1, 4, none⟩ = some (.slice A1 n1 c1) := R1.out.cell 4
  have k15 : w2.cell? ⟨g1, 5, none⟩ = some (.slice A2 n2 c2) := R1.out.cell 5
  have k20 : w2.cell? ⟨g2, 0, none⟩ = some (.string y1) := R2.out.cell 0
  have k21 : w2.cell? ⟨g2, 1, none⟩ = some (.string y2) := R2.out.cell 1
  have k22 : w2.cell? ⟨g2, 2, none⟩ = some (.string y3) := R2.out.cell 2
  have k23 : w2.cell? ⟨g2, 3, none⟩ = some (.int .i64 po') := R2.out.cell 3
  have k24 : w2.cell? ⟨g2, 4, none⟩ = some (.slice B1 m1 d1) := R2.out.cell 4
  have k25 : w2.cell? ⟨g2, 5, none⟩ = some (.slice B2 m2 d2) := R2.out.cell 5
  clear R1 R2
  cases b1 with
  | false =>
    go_wp2_with fail
    go_ret
    exact ⟨rfl, by rw [hg]; exact HB.out⟩
  | true =>
  cases b2 with
  | false =>
    go_wp2_with fail
    go_ret
    exact ⟨rfl, by rw [hg]; exact HB.out⟩
  | true =>
  cases b3 with
  | false =>
    go_wp2_with fail
    go_ret
    exact ⟨rfl, by rw [hg]; exact HB.out⟩
  | true =>
  by_cases b4 : po = po'
  · have d4 : decide (po = po') = true := by simp [b4]
    have d5 : (po == po') = true := by simp [b4]
    clear b4 D
    go_wp2_with fail
    refine (P1.out _ HB.out).mono ?_
    rintro _ _ ⟨rfl, q, rfl⟩
    have HB2 := kd (show Below g1 w (w2.drewN q) from HB.out.trans ⟨rfl, rfl, rfl, Nat.le_refl _, fun _ _ => rfl⟩)
    cases b5 with
    | false =>
      go_wp2_with fail
      go_ret
      exact ⟨by rw [d4]; rfl, by rw [hg]; exact HB2.out⟩
    | true =>
    go_wp2_with fail
    refine (P2.out _ HB2.out).mono ?_
    rintro _ _ ⟨rfl, q2, rfl⟩
    have HB3 := kd (show Below g1 w (w2.drewN (q + q2)) from HB2.out.trans ⟨rfl, rfl, rfl, Nat.le_refl _, fun _ _ => rfl⟩)
    go_wp2_with fail
    go_ret
    cases b6 with
    | false => exact ⟨by rw [d4]; rfl, by rw [hg]; exact HB3.out⟩
    | true => exact ⟨by rw [d4]; rfl, by rw [hg]; exact HB3.out⟩
  · have d4 : decide (po = po') = false := by simp [b4]
    have d5 : (po == po') = false := by simp [b4]
    clear b4 D
    go_wp2_with fail
    go_ret
    exact ⟨by rw [d4]; rfl, by rw [hg]; exact HB.out⟩
end Go.Proofs.YthfonniieaiocaaGreatDoor
namespace Go.Proofs
open Go.Shelf
def Tryz.lays169_ren : Go.Shelf.Ren := ⟨fun | 169 => 93 | n => n, fun | 70 => 105 | 9 => 9 | 0 => 0 | 72 => 107 | 37 => 69 | 127 => 148 | 3 => 3 | 5 => 5 | n => n, fun | n => n⟩
theorem Tryz.lays169 : Go.Proofs.Lays.n169 Tryz.prog Tryz.lays169_ren := {
  mixed := by kernel_rfl
  f169 := Tryz.func93.trans (congrArg some (by kernel_rfl))
  t0 := Tryz.underlying0
  a0 := Tryz.isAgg0
  z0 := Tryz.sizeOf0
  v0 := Tryz.zeroValue0
  t3 := Tryz.underlying3
  a3 := Tryz.isAgg3
  z3 := Tryz.sizeOf3
  v3 := Tryz.zeroValue3
  t9 := Tryz.underlying9
  a9 := Tryz.isAgg9
  z9 := Tryz.sizeOf9
  v9 := Tryz.zeroValue9
  t37 := Tryz.underlying69
  a37 := Tryz.isAgg69
  z37 := Tryz.sizeOf69
  v37 := Tryz.zeroValue69
  t70 := Tryz.underlying105
  a70 := Tryz.isAgg105
  z70 := Tryz.sizeOf105
  v70 := Tryz.zeroValue105
  t72 := Tryz.underlying107
  a72 := Tryz.isAgg107
  z72 := Tryz.sizeOf107
  v72 := Tryz.zeroValue107
  t127 := Tryz.underlying148
  a127 := Tryz.isAgg148
  z127 := Tryz.sizeOf148
  v127 := Tryz.zeroValue148 }
theorem Tryz.Builder_Extra_169 : Builder.Extra Tryz.prog Tryz.lays169_ren := {
  sizeBuilder := by kernel_rfl
  liesBuilder := by kernel_rfl
  t5 := Tryz.underlying5
  a5 := Tryz.isAgg5
  z5 := Tryz.sizeOf5
  v5 := Tryz.zeroValue5
  infoByte := by kernel_rfl
  cellsByte := by kernel_rfl
  sizeByte := by kernel_rfl
  neB5 := by decide }
open Go.RowKit in
theorem Tryz.Builder_String_any (B b : Nat) (l : List UInt8) (w : World) (h : Lib.IsBuilder 107 5 B b (Lib.byteCells l) w) (hBw : B ≤ w.heap.size) :
    Calls Tryz.prog 93 #[.pointer (some ⟨b, 0, none⟩)] w fun e w' => e = .returned (.string ⟨l.toArray⟩) ∧ Below B w w' := Any.Builder_String_any Tryz.lays169 Tryz.Builder_Extra_169 B b l w h hBw
end Go.Proofs
namespace Go.Proofs.YthfonniieaiocaaGreatDoor
open Go.RowKit

structure BdR (w : World) (b : Nat) (xs : List Int) (K : List Blk) (wr : World) : Prop where
  row : ∃ p v, (p = .pointer none ∨ p = .pointer (some ⟨b, 0, none⟩)) ∧ Row wr b 107 [p, v] ∧ OX w v xs wr
  ge : w.heap.size ≤ b
  k : ∀ r ∈ K, Row wr r.1 r.2.1 r.2.2 ∧ r.2.1 ≠ 5 ∧ r.1 ≠ b
section
variable {w wr w' : World} {b : Nat} {xs : List Int} {K : List Blk}
theorem BdR.bw (h : BdR w b xs K wr) : Below w.heap.size w wr := by
  obtain ⟨_, _, _, _, h2⟩ := h.row; exact h2.bw
theorem BdR.call (h : BdR w b xs K wr) (hb : Below wr.heap.size wr w') : BdR w b xs K w' := by
  obtain ⟨p, v, h1, h2, h3⟩ := h.row
  exact ⟨⟨p, v, h1, h2.below hb, h3.step hb⟩, h.ge, fun r hr => ⟨(h.k r hr).1.below hb, (h.k r hr).2⟩⟩
theorem BdR.new (w0 w : World) (K : List Blk) (hb : Below w0.heap.size w0 w) (hK : ∀ r ∈ K, Row w r.1 r.2.1 r.2.2 ∧ r.2.1 ≠ 5) : BdR w0 w.heap.size [] K (w.alloc (.cells #[.pointer none, .slice none 0 0] 107)) := by
  have ha : Below w.heap.size w (w.alloc (.cells #[.pointer none, .slice none 0 0] 107)) := (Below.refl _ _).alloc (Nat.le_refl _) _
  exact ⟨⟨.pointer none, .slice none 0 0, .inl rfl, Row.new w 107 [.pointer none, .slice none 0 0], ⟨World.ownsRow_nil _ _ _ _, bthen hb ha⟩⟩, hb.size, fun r hr => ⟨(hK r hr).1.below ha, (hK r hr).2, fun e => by have := (hK r hr).1.lt; omega⟩⟩
theorem BdR.lt (h : BdR w b xs K wr) : b < wr.heap.size := by
  obtain ⟨_, _, _, h2, _⟩ := h.row; exact h2.lt
theorem BdR.add (h : BdR w b xs K wr) {g : Nat} {T : TypeId} {us : List Value} (hr : Row wr g T us) (ht : T ≠ 5) (hg : g ≠ b) : BdR w b xs ((g, T, us) :: K) wr := ⟨h.row, h.ge, fun r hm => by
  rcases List.mem_cons.1 hm with rfl | hm
  · exact ⟨hr, ht, hg⟩
  · exact h.k r hm⟩
theorem BdR.alloc (h : BdR w b xs K wr) (T : TypeId) (us : List Value) (ht : T ≠ 5) : BdR w b xs ((wr.heap.size, T, us) :: K) (wr.alloc (.cells us.toArray T)) :=
  (h.call ((Below.refl _ _).alloc (Nat.le_refl _) _)).add (Row.new wr T us) ht (fun e => by have := h.lt; omega)
theorem BdR.tail {r : Blk} (h : BdR w b xs (r :: K) wr) : BdR w b xs K wr := ⟨h.row, h.ge, fun x hx => h.k x (List.mem_cons_of_mem _ hx)⟩
theorem BdR.at {i g : Nat} {T : TypeId} {us : List Value} (h : BdR w b xs K wr) (hi : K[i]? = some (g, T, us)) : Row wr g T us := (h.k _ (List.mem_of_getElem? hi)).1
theorem BdR.is (h : BdR w b xs K wr) : Lib.IsBuilder 107 5 w.heap.size b (U8 xs) wr := by
  obtain ⟨p, v, h1, h2, h3⟩ := h.row
  have hl : (U8 xs).length = xs.length := by simp [U8]
  have hne : v.ownBlock ≠ some b := fun e => h3.ne h2 (by decide) b e rfl
  have h4 : wr.ownsRow w.heap.size 5 1 v (U8 xs).length (U8 xs) := by rw [hl]; exact h3.o
  rcases h1 with rfl | rfl
  · exact .inl ⟨h.ge, v, h2, h4, hne⟩
  · exact .inr ⟨h.ge, v, h2, h4, hne⟩
end
theorem strCells_U8 (s : ByteArray) : Lib.strCells s = U8 (byteL s) := by
  unfold Lib.strCells U8 byteL
  rw [List.map_map]; rfl
theorem byteCells_U8 (l : List UInt8) : Lib.byteCells l = U8 (bl l) := by
  unfold Lib.byteCells U8 bl
  rw [List.map_map]; rfl
theorem sizeBd : (Tryz.prog.info? 107).map (·.size) = some 2 := by kernel_rfl
theorem liesBd : liesAt Tryz.prog Tryz.prog.depth 107 (2 / Tryz.prog.cellsOf 107) 0 107 1 = true := by kernel_rfl
theorem Row.shape {w : World} {b : Nat} {T : TypeId} {us : List Value} (h : Row w b T us) : w.shape? b = some (T, us.length) := by
  unfold Row at h
  simp [World.shape?, h]
theorem copycheck_any (w wr : World) (b : Nat) (xs : List Int) (K : List Blk) (H : BdR w b xs K wr) :
    Calls Tryz.prog 150 #[.pointer (some ⟨b, 0, none⟩)] wr fun e w' => e = .returned (.tuple #[]) ∧ BdR w b xs K w' ∧ ∃ v, Row w' b 107 [.pointer (some ⟨b, 0, none⟩), v] ∧ OX w v xs w' := by
  obtain ⟨p, v, h1, h2, h3⟩ := H.row
  obtain ⟨j, hj, hjs⟩ := Option.map_eq_some_iff.1 sizeBd
  have c0 : wr.cell? ⟨b, 0, none⟩ = some p := h2.cell 0
  have f0 : wr.frozen? ⟨b, 0, none⟩ = false := h2.frozen 0
  have hsh : wr.shape? b = some (107, 2) := h2.shape
  rcases h1 with rfl | rfl
  · have R : Row (wr.setCell ⟨b, 0, none⟩ (.pointer (some ⟨b, 0, none⟩))) b 107 [.pointer (some ⟨b, 0, none⟩), v] := h2.set 0 _
    have O : OX w v xs (wr.setCell ⟨b, 0, none⟩ (.pointer (some ⟨b, 0, none⟩))) := h3.put H.ge (h3.ne h2 (by decide))
    have PN : BdR w b xs K (wr.setCell ⟨b, 0, none⟩ (.pointer (some ⟨b, 0, none⟩))) := ⟨⟨_, _, .inr rfl, R, O⟩, H.ge, fun r hr => ⟨(H.k r hr).1.setOther (Ne.symm (H.k r hr).2.2) _, (H.k r hr).2⟩⟩
    have HE := kd (show ∃ v, Row (wr.setCell ⟨b, 0, none⟩ (.pointer (some ⟨b, 0, none⟩))) b 107 [.pointer (some ⟨b, 0, none⟩), v] ∧ OX w v xs (wr.setCell ⟨b, 0, none⟩ (.pointer (some ⟨b, 0, none⟩))) from ⟨v, R, O⟩)
    have HP := kd PN
    clear R O PN h2 h3 H
    go_enter Tryz.func150, Tryz.ntmps150
    go_wp2_with fail
    rw [Lib.run_to_unsafe wr ⟨b, 0, none⟩ Tryz.underlying105 Tryz.underlying168 hj (by rw [hjs]; decide) hsh (Nat.zero_lt_succ 1)]
    simp only [Result.andThen]
    rw [Oper.upon_value]
    go_wp2_with fail
    rw [run_callFunc_extern Tryz.func180 (by kernel_rfl) (by kernel_rfl) (by kernel_rfl) (e := Extern.AbiNoEscape.same) (by kernel_rfl)]
    rw [Lib.run_noEscape]
    simp only [Result.andThen]
    rw [Oper.upon_value]
    go_wp2_with fail
    rw [Lib.run_from_unsafe wr ⟨b, 0, none⟩ Tryz.underlying168 Tryz.underlying105 hj hsh liesBd]
    simp only [Result.andThen]
    rw [Oper.upon_value]
    go_wp2_with fail
    first | exact ⟨rfl, HP.out, HE.out⟩ | (go_ret; exact ⟨rfl, HP.out, HE.out⟩) | (go_end0; exact ⟨rfl, HP.out, HE.out⟩)
  · have HP := kd H
    have HE := kd (show ∃ v, Row wr b 107 [.pointer (some ⟨b, 0, none⟩), v] ∧ OX w v xs wr from ⟨v, h2, h3⟩)
    clear h2 h3 H
    go_enter Tryz.func150, Tryz.ntmps150
    go_wp2_with fail
    rw [Lib.run_neq_ptr_same wr _ Tryz.underlying105 hj]
    go_wp2_with fail
    first | exact ⟨rfl, HP.out, HE.out⟩ | (go_ret; exact ⟨rfl, HP.out, HE.out⟩) | (go_end0; exact ⟨rfl, HP.out, HE.out⟩)
theorem BdR.grown {w wr w2 : World} {b : Nat} {xs ys : List Int} {K : List Blk} {p v v' : Value} (H : BdR w b xs K wr) (hr : Row wr b 107 [p, v]) (ho : OX w v xs wr) (h2 : w2.ownsRow w.heap.size 5 1 v' ys.length (U8 ys)) (hg : wr.grownBy w2 v.ownBlock) :
    Row w2 b 107 [p, v] ∧ OX w v' ys w2 ∧ ∀ r ∈ K, Row w2 r.1 r.2.1 r.2.2 ∧ r.2.1 ≠ 5 ∧ r.1 ≠ b := by
  refine ⟨hr.heap (hg.block b hr.lt (fun e => ho.ne hr (by decide) b e.symm rfl)), ⟨h2, ho.bw.grown hg ho.bw.size (own_block ho.o)⟩, fun r hm => ?_⟩
  obtain ⟨k1, k2, k3⟩ := H.k r hm
  exact ⟨k1.heap (hg.block r.1 k1.lt (fun e => ho.ne k1 k2 r.1 e.symm rfl)), k2, k3⟩
theorem bwrite_any (w wr : World) (b : Nat) (xs : List Int) (K : List Blk) (s : ByteArray) (H : BdR w b xs K wr) (hl : xs.length + s.size ≤ 4000000000) :
    Calls Tryz.prog 90 #[.pointer (some ⟨b, 0, none⟩), .string s] wr fun e w' => e = .returned (.tuple #[.int .i64 s.size, .nilIface]) ∧ BdR w b (xs ++ byteL s) K w' := by
  obtain ⟨i, hi, hz, hsz, hbt⟩ := i5all
  go_enter Tryz.func90, Tryz.ntmps90
  go_wp2_with fail
  refine (copycheck_any w wr b xs K H).mono ?_
  rintro e w1 ⟨rfl, HP, v, hr, ho⟩
  have c1 : w1.cell? ⟨b, 1, none⟩ = some v := hr.cell 1
  go_wp2_with (refine Lib.wpList_append_own_string _ rfl (.tmp 12) (.tmp 13) 69 9 rfl w.heap.size 5 i Tryz.underlying69 Tryz.underlying9 hi hz hsz hbt v xs.length (U8 xs) rfl ho.o s rfl ?c3 ?c4 ?c5 ?_)
  case c3 => unfold maxLen; omega
  case c4 => omega
  case c5 => exact ho.bw.size
  intro v' w2 h2 hg _
  obtain ⟨k1, k2, k3⟩ := HP.grown (v' := v') (ys := xs ++ byteL s) hr ho (by rw [List.length_append, byteL_len, show U8 (xs ++ byteL s) = U8 xs ++ Lib.strCells s by rw [strCells_U8]; simp [U8]]; exact h2) hg
  have d1 : w2.cell? ⟨b, 1, none⟩ = some v := k1.cell 1
  have f1 : w2.frozen? ⟨b, 1, none⟩ = false := k1.frozen 1
  obtain ⟨ao, n', cap, rfl⟩ : ∃ ao n' cap, v' = .slice ao n' cap := by
    rcases h2.2 with ⟨hv, _⟩ | ⟨g, cap, cur, hv, _⟩
    · exact ⟨_, _, _, hv⟩
    · exact ⟨_, _, _, hv⟩
  have HR := kd (show BdR w b (xs ++ byteL s) K (w2.setCell ⟨b, 1, none⟩ (.slice ao n' cap)) from ⟨⟨_, _, .inr rfl, k1.set 1 _, k2.put H.ge (k2.ne k1 (by decide))⟩, H.ge, fun r hm => ⟨(k3 r hm).1.setOther (Ne.symm (k3 r hm).2.2) _, (k3 r hm).2⟩⟩)
  clear k1 k2 k3 h2 hg
  go_wp2_with fail
  go_ret2
  exact ⟨rfl, HR.out⟩
theorem bbyte_any (w wr : World) (b : Nat) (xs : List Int) (K : List Blk) (c : Int) (H : BdR w b xs K wr) (hl : xs.length + 1 ≤ 4000000000) :
    Calls Tryz.prog 92 #[.pointer (some ⟨b, 0, none⟩), .int .u8 c] wr fun e w' => e = .returned .nilIface ∧ BdR w b (xs ++ [c]) K w' := by
  obtain ⟨i, hi, hz, hsz, hbt⟩ := i5all
  go_enter Tryz.func92, Tryz.ntmps92
  go_wp2_with fail
  refine (copycheck_any w wr b xs K H).mono ?_
  rintro e w1 ⟨rfl, HP, v, hr, ho⟩
  have c1 : w1.cell? ⟨b, 1, none⟩ = some v := hr.cell 1
  have ha : Below w1.heap.size w1 (w1.alloc (.cells #[.int .u8 c] 5)) := (Below.refl _ _).alloc (Nat.le_refl _) _
  go_wp2_with (refine wpList_append_own_at _ rfl (.tmp 11) (.tmp 13) 69 rfl w.heap.size 5 i (.int .u8 0) 1 1 Tryz.underlying69 hi hz hsz hbt rfl (by omega) v xs.length (U8 xs) rfl (ho.o.alloc _) ⟨w1.heap.size, 0, none⟩ 1 1 [.int .u8 c] rfl rfl ?c1 ?c2 ?c3 ?c4 ?c5 ?_)
  case c1 =>
    intro j u hj
    match j, hj with
    | 0, hj => simp at hj; subst hj; simp [Addr.add]
  case c2 => intro u hu; simp at hu; subst hu; rfl
  case c3 => unfold maxLen; omega
  case c4 => omega
  case c5 => have := ho.bw.size; simp; omega
  intro v' w2 h2 hg _ _
  obtain ⟨k1, k2, k3⟩ := (HP.call ha).grown (v' := v') (ys := xs ++ [c]) (hr.below ha) (ho.step ha) (by rw [List.length_append, show U8 (xs ++ [c]) = U8 xs ++ [.int .u8 c] by simp [U8]]; exact h2) hg
  have d1 : w2.cell? ⟨b, 1, none⟩ = some v := k1.cell 1
  have f1 : w2.frozen? ⟨b, 1, none⟩ = false := k1.frozen 1
  obtain ⟨ao, n', cap, rfl⟩ : ∃ ao n' cap, v' = .slice ao n' cap := by
    rcases h2.2 with ⟨hv, _⟩ | ⟨g, cap, cur, hv, _⟩
    · exact ⟨_, _, _, hv⟩
    · exact ⟨_, _, _, hv⟩
  have HR := kd (show BdR w b (xs ++ [c]) K (w2.setCell ⟨b, 1, none⟩ (.slice ao n' cap)) from ⟨⟨_, _, .inr rfl, k1.set 1 _, k2.put H.ge (k2.ne k1 (by decide))⟩, H.ge, fun r hm => ⟨(k3 r hm).1.setOther (Ne.symm (k3 r hm).2.2) _, (k3 r hm).2⟩⟩)
  clear k1 k2 k3 h2 hg
  go_wp2_with fail
  first | exact ⟨rfl, HR.out⟩ | (go_ret; exact ⟨rfl, HR.out⟩)
theorem bstring_any (w wr : World) (b : Nat) (xs : List Int) (K : List Blk) (H : BdR w b xs K wr) (hx : By xs) :
    Calls Tryz.prog 93 #[.pointer (some ⟨b, 0, none⟩)] wr fun e w' => e = .returned (.string (strOfNums xs)) ∧ Below w.heap.size w w' := by
  have hs : xs = bl (strOfNums xs).data.toList := (bl_strOfNums hx).symm
  have hi := H.is
  rw [hs, ← byteCells_U8] at hi
  refine (Tryz.Builder_String_any w.heap.size b _ wr hi H.bw.size).mono fun e w' h => ⟨by rw [h.1], H.bw.trans h.2⟩
end Go.Proofs.YthfonniieaiocaaGreatDoor
