/- Contracts: the law's host, refused, wrong; the reference's SameAddress. The law AddressKnown. -/
import Derived.Test.YthfonniieaiocaaGreatDoorYd
import Derived.BigQuiet
import Derived.Test.YthfonniieaiocaaGreatDoorWt
set_option linter.unusedVariables false
set_option linter.unusedSimpArgs false
namespace Go.Proofs.YthfonniieaiocaaGreatDoor
open Go.RowKit

theorem ne_empty {n : List Int} (h : n ≠ []) : ((strOfNums n).toList == ([] : List UInt8)) = false := by
  rw [empty_beq]
  cases n with
  | nil => exact absurd rfl h
  | cons a r => rfl
theorem lhost_none (s : ByteArray) (w : World) (hs : s.size ≤ 4000000) (h : hostL (byteL s) = none) (hG : GM w) (hP : PT w) : Calls Tryz.prog 42 #[.string s, .string ⟨#[]⟩] w fun e w' => e = .returned (.bool true) ∧ Below w.heap.size w w' := by
  have HO := adhost_any s w hs hG hP
  rw [h] at HO
  have HO := Lib.hid HO
  clear h hG hP
  go_enter Tryz.func42, Tryz.ntmps42
  go_wp2_with fail
  refine HO.out.mono ?_
  rintro _ w1 ⟨rfl, hb⟩
  have B1 := Lib.hid hb
  rw [show hostV none = .tuple #[.string ⟨#[]⟩, .bool false] from rfl]
  go_wp2_with fail
  go_ret
  exact ⟨rfl, B1.out⟩
theorem lhost_some (s : ByteArray) (n : List Int) (w : World) (hs : s.size ≤ 4000000) (h : hostL (byteL s) = some n) (hn : n ≠ []) (hG : GM w) (hP : PT w) : Calls Tryz.prog 42 #[.string s, .string (strOfNums n)] w fun e w' => e = .returned (.bool true) ∧ Below w.heap.size w w' := by
  have HO := adhost_any s w hs hG hP
  rw [h] at HO
  have HO := Lib.hid HO
  have q1 := ne_empty hn
  clear h hG hP hn
  go_enter Tryz.func42, Tryz.ntmps42
  go_wp2_with fail
  refine HO.out.mono ?_
  rintro _ w1 ⟨rfl, hb⟩
  have B1 := Lib.hid hb
  rw [show hostV (some n) = .tuple #[.string (strOfNums n), .bool true] from rfl]
  generalize strOfNums n = t at *
  go_wp2_with fail
  go_ret
  exact ⟨rfl, B1.out⟩
set_option maxRecDepth 100000 in
theorem refused_is (s : ByteArray) (z : Nat) (k : Int) (w : World) (h : uriL (byteL s) = .error (z, k)) (hC : CLS w) (hG : GM w) (hP : PT w) : Calls Tryz.prog 43 #[.string s, .int .i64 z, .int .u8 k] w fun e w' => e = .returned (.bool true) ∧ Below w.heap.size w w' := by
  have PW := Lib.hid (parse_wrong s h w hC hG hP)
  clear h hC hG hP
  go_enter Tryz.func43, Tryz.ntmps43
  go_wp2_with fail
  refine PW.out.mono ?_
  rintro e w1 ⟨rfl, hb1⟩
  have S1 := Lib.hid hb1
  clear hb1
  have RZ := Lib.hid (Row.new w1 32 [.string ⟨#[]⟩, .string ⟨#[]⟩, .string ⟨#[]⟩, .int .i64 0, .slice none 0 0, .slice none 0 0])
  go_wp2_with (with_reducible refine wpList_storeG rfl 32 (.tmp 7) (.tmp 13) rfl RZ.out [.string ⟨#[]⟩, .string ⟨#[]⟩, .string ⟨#[]⟩, .int .i64 0, .slice none 0 0, .slice none 0 0] rfl rfl (lenU _ _ _ _ _ _ _ _ _ _ _ _) (sizeU _ _ _ _ _ _) (u_one _ _ _ _) ?_)
  intro w2 R1 G_
  have S2 := Lib.hid (below_store (w := w1) (T := 32) (zs := [.string ⟨#[]⟩, .string ⟨#[]⟩, .string ⟨#[]⟩, .int .i64 0, .slice none 0 0, .slice none 0 0]) (Below.refl _ _) G_.out)
  clear RZ G_
  have B2 := Lib.hid (bthen S1.out S2.out)
  clear S1 S2
  have k0 : w2.cell? ⟨w1.heap.size, 0, none⟩ = some (.string ⟨#[]⟩) := R1.out.cell 0
  have k1 : w2.cell? ⟨w1.heap.size, 1, none⟩ = some (.string ⟨#[]⟩) := R1.out.cell 1
  have k2 : w2.cell? ⟨w1.heap.size, 2, none⟩ = some (.string ⟨#[]⟩) := R1.out.cell 2
  have k3 : w2.cell? ⟨w1.heap.size, 3, none⟩ = some (.int .i64 0) := R1.out.cell 3
  have k4 : w2.cell? ⟨w1.heap.size, 4, none⟩ = some (.slice none 0 0) := R1.out.cell 4
  have k5 : w2.cell? ⟨w1.heap.size, 5, none⟩ = some (.slice none 0 0) := R1.out.cell 5
  clear R1
  go_wp2_with fail
  refine (same_zero w2).mono ?_
  rintro _ w3 ⟨rfl, hb3⟩
  have B3 := Lib.hid (bthen B2.out hb3)
  clear k0 k1 k2 k3 k4 k5
  go_wp2_with fail
  go_ret
  exact ⟨rfl, B3.out⟩
/-- An address that is handed in. -/
structure AArg (w : World) (a : Adr) (A1 A2 A3 : Option Addr) : Prop where
  ds : By a.ds
  u : UArg w a.u A1 A2
  sp : ∀ p ∈ a.ps, pmSz p
  r3 : Rds w w.heap.size A3 (pms a.ps)
  l3 : a.ps.length ≤ 16000000
theorem AArg.step {w w' : World} {a : Adr} {A1 A2 A3 : Option Addr} (h : AArg w a A1 A2 A3) (hb : Below w.heap.size w w') : AArg w' a A1 A2 A3 := { h with u := h.u.step hb, r3 := (h.r3.below hb).up hb.size }
def aS (a : Adr) (A1 A2 A3 : Option Addr) (c1 c2 c3 : Nat) : Value := .agg #[.string (strOfNums a.ds), .string (strOfNums a.u.sc), .string (strOfNums a.u.us), .string (strOfNums a.u.ho), .int .i64 a.u.po, .slice A1 a.u.ps.length c1, .slice A2 a.u.hs.length c2, .slice A3 a.ps.length c3]
def AR0 : Adr := ⟨[], UR0, []⟩
theorem aarg_zero (w : World) : AArg w AR0 none none none :=
  ⟨byD rfl, ⟨⟨byD rfl, byD rfl, byD rfl, (fun p hp => by cases hp), (fun p hp => by cases hp)⟩, by decide, by decide, by decide, (fun p hp => by cases hp), (fun p hp => by cases hp), (fun h => absurd h (by decide)), (fun h => absurd h (by decide)), by decide, by decide⟩, (fun p hp => by cases hp), (fun h => absurd h (by decide)), by decide⟩
set_option maxRecDepth 100000 in
set_option maxHeartbeats 2000000 in
theorem samead_one (a : Adr) (A1 A2 A3 B1 B2 B3 : Option Addr) (c1 c2 c3 d1 d2 d3 : Nat) (w : World) (H : AArg w a A1 A2 A3) (H2 : AArg w a B1 B2 B3) :
    Calls Tryz.prog 28 #[aS a A1 A2 A3 c1 c2 c3, aS a B1 B2 B3 d1 d2 d3] w fun e w' => e = .returned (.bool true) ∧ Below w.heap.size w w' := by
  obtain ⟨r1, r2, hb⟩ := two_rows w 38 38 [.string (strOfNums a.ds), .string (strOfNums a.u.sc), .string (strOfNums a.u.us), .string (strOfNums a.u.ho), .int .i64 a.u.po, .slice A1 a.u.ps.length c1, .slice A2 a.u.hs.length c2, .slice A3 a.ps.length c3] [.string (strOfNums a.ds), .string (strOfNums a.u.sc), .string (strOfNums a.u.us), .string (strOfNums a.u.ho), .int .i64 a.u.po, .slice B1 a.u.ps.length d1, .slice B2 a.u.hs.length d2, .slice B3 a.ps.length d3]
  have R1 := Lib.hid r1; have R2 := Lib.hid r2; have B0 := Lib.hid hb
  have HA := Lib.hid (H.step hb); have HB := Lib.hid (H2.step hb)
  clear r1 r2 hb H H2
  unfold aS
  go_enter Tryz.func28, Tryz.ntmps28
  go_upto_region 1 with (fail)
  generalize (w.alloc (.cells #[.string (strOfNums a.ds), .string (strOfNums a.u.sc), .string (strOfNums a.u.us), .string (strOfNums a.u.ho), .int .i64 a.u.po, .slice A1 a.u.ps.length c1, .slice A2 a.u.hs.length c2, .slice A3 a.ps.length c3] 38)).alloc (.cells #[.string (strOfNums a.ds), .string (strOfNums a.u.sc), .string (strOfNums a.u.us), .string (strOfNums a.u.ho), .int .i64 a.u.po, .slice B1 a.u.ps.length d1, .slice B2 a.u.hs.length d2, .slice B3 a.ps.length d3] 38) = w1 at *
  obtain ⟨g2, hg2⟩ : ∃ g, w.heap.size + 1 = g := ⟨_, rfl⟩
  obtain ⟨g1, hg1⟩ : ∃ g, w.heap.size = g := ⟨_, rfl⟩
  rw [hg2] at R2 ⊢
  rw [hg1] at R1 ⊢
  clear hg2 hg1
  have k0 : w1.cell? ⟨g1, 0, none⟩ = some (.string (strOfNums a.ds)) := R1.out.cell 0
  have k1 : w1.cell? ⟨g1, 1, none⟩ = some (.string (strOfNums a.u.sc)) := R1.out.cell 1
  have k2 : w1.cell? ⟨g1, 2, none⟩ = some (.string (strOfNums a.u.us)) := R1.out.cell 2
  have k3 : w1.cell? ⟨g1, 3, none⟩ = some (.string (strOfNums a.u.ho)) := R1.out.cell 3
  have k4 : w1.cell? ⟨g1, 4, none⟩ = some (.int .i64 a.u.po) := R1.out.cell 4
  have k5 : w1.cell? ⟨g1, 5, none⟩ = some (.slice A1 a.u.ps.length c1) := R1.out.cell 5
  have k6 : w1.cell? ⟨g1, 6, none⟩ = some (.slice A2 a.u.hs.length c2) := R1.out.cell 6
  have k7 : w1.cell? ⟨g1, 7, none⟩ = some (.slice A3 a.ps.length c3) := R1.out.cell 7
  have m0 : w1.cell? ⟨g2, 0, none⟩ = some (.string (strOfNums a.ds)) := R2.out.cell 0
  have m1 : w1.cell? ⟨g2, 1, none⟩ = some (.string (strOfNums a.u.sc)) := R2.out.cell 1
  have m2 : w1.cell? ⟨g2, 2, none⟩ = some (.string (strOfNums a.u.us)) := R2.out.cell 2
  have m3 : w1.cell? ⟨g2, 3, none⟩ = some (.string (strOfNums a.u.ho)) := R2.out.cell 3
  have m4 : w1.cell? ⟨g2, 4, none⟩ = some (.int .i64 a.u.po) := R2.out.cell 4
  have m5 : w1.cell? ⟨g2, 5, none⟩ = some (.slice B1 a.u.ps.length d1) := R2.out.cell 5
  have m6 : w1.cell? ⟨g2, 6, none⟩ = some (.slice B2 a.u.hs.length d2) := R2.out.cell 6
  have m7 : w1.cell? ⟨g2, 7, none⟩ = some (.slice B3 a.ps.length d3) := R2.out.cell 7
  go_wp2_with fail
  refine (same_one A1 A2 B1 B2 c1 c2 d1 d2 w1 HA.out.u HB.out.u).mono ?_
  rintro _ w2 ⟨rfl, hb2⟩
  have B2' := Lib.hid (bthen B0.out hb2)
  have HA2 := Lib.hid (HA.out.step hb2); have HB2 := Lib.hid (HB.out.step hb2)
  replace R1 := Lib.hid (R1.out.below hb2); replace R2 := Lib.hid (R2.out.below hb2)
  clear hb2 B0 HA HB k0 m0 k1 m1 k2 m2 k3 m3 k4 m4 k5 m5 k6 m6 k7 m7
  have k0 : w2.cell? ⟨g1, 0, none⟩ = some (.string (strOfNums a.ds)) := R1.out.cell 0
  have k1 : w2.cell? ⟨g1, 1, none⟩ = some (.string (strOfNums a.u.sc)) := R1.out.cell 1
  have k2 : w2.cell? ⟨g1, 2, none⟩ = some (.string (strOfNums a.u.us)) := R1.out.cell 2
  have k3 : w2.cell? ⟨g1, 3, none⟩ = some (.string (strOfNums a.u.ho)) := R1.out.cell 3
  have k4 : w2.cell? ⟨g1, 4, none⟩ = some (.int .i64 a.u.po) := R1.out.cell 4
  have k5 : w2.cell? ⟨g1, 5, none⟩ = some (.slice A1 a.u.ps.length c1) := R1.out.cell 5
  have k6 : w2.cell? ⟨g1, 6, none⟩ = some (.slice A2 a.u.hs.length c2) := R1.out.cell 6
  have k7 : w2.cell? ⟨g1, 7, none⟩ = some (.slice A3 a.ps.length c3) := R1.out.cell 7
  have m0 : w2.cell? ⟨g2, 0, none⟩ = some (.string (strOfNums a.ds)) := R2.out.cell 0
  have m1 : w2.cell? ⟨g2, 1, none⟩ = some (.string (strOfNums a.u.sc)) := R2.out.cell 1
  have m2 : w2.cell? ⟨g2, 2, none⟩ = some (.string (strOfNums a.u.us)) := R2.out.cell 2
  have m3 : w2.cell? ⟨g2, 3, none⟩ = some (.string (strOfNums a.u.ho)) := R2.out.cell 3
  have m4 : w2.cell? ⟨g2, 4, none⟩ = some (.int .i64 a.u.po) := R2.out.cell 4
  have m5 : w2.cell? ⟨g2, 5, none⟩ = some (.slice B1 a.u.ps.length d1) := R2.out.cell 5
  have m6 : w2.cell? ⟨g2, 6, none⟩ = some (.slice B2 a.u.hs.length d2) := R2.out.cell 6
  have m7 : w2.cell? ⟨g2, 7, none⟩ = some (.slice B3 a.ps.length d3) := R2.out.cell 7
  have SP := Lib.hid (samepms_any A3 B3 _ c3 _ d3 a.ps a.ps w2 HA2.out.r3 HB2.out.r3 rfl rfl HA2.out.l3 HA2.out.l3 (fun p hp => ⟨(HA2.out.sp p hp).1, (HA2.out.sp p hp).2.1⟩) (fun p hp => ⟨(HA2.out.sp p hp).1, (HA2.out.sp p hp).2.1⟩))
  rw [samePs_iff.2 rfl] at SP
  go_wp2_with fail
  refine SP.out.mono ?_
  rintro _ w3 ⟨rfl, q, rfl⟩
  go_wp2_with fail
  go_ret
  exact ⟨rfl, bthen B2'.out (below_drewN _ _)⟩
theorem adr_wrong (s : ByteArray) {n : Nat} {k : Int} (h : adrL (byteL s) = .error (n, k)) (w : World) (hC : CLS w) (hG : GM w) (hP : PT w) : Calls Tryz.prog 26 #[.string s] w fun e w' => e = .returned (.tuple #[.agg #[.string ⟨#[]⟩, .string ⟨#[]⟩, .string ⟨#[]⟩, .string ⟨#[]⟩, .int .i64 0, .slice none 0 0, .slice none 0 0, .slice none 0 0], .int .i64 (n : Nat), .int .u8 k]) ∧ Below w.heap.size w w' := by
  refine (parseadr_any s w hC hG hP).mono ?_
  intro e w' hr
  rw [h] at hr
  exact ⟨hr.1, hr.2.1⟩
set_option maxRecDepth 100000 in
theorem lwrong_is (s : ByteArray) (z : Nat) (k : Int) (w : World) (h : adrL (byteL s) = .error (z, k)) (hC : CLS w) (hG : GM w) (hP : PT w) : Calls Tryz.prog 44 #[.string s, .int .i64 z, .int .u8 k] w fun e w' => e = .returned (.bool true) ∧ Below w.heap.size w w' := by
  have PW := Lib.hid (adr_wrong s h w hC hG hP)
  clear h hC hG hP
  go_enter Tryz.func44, Tryz.ntmps44
  go_wp2_with fail
  refine PW.out.mono ?_
  rintro e w1 ⟨rfl, hb1⟩
  have S1 := Lib.hid hb1
  clear hb1
  have RZ := Lib.hid (Row.new w1 38 [.string ⟨#[]⟩, .string ⟨#[]⟩, .string ⟨#[]⟩, .string ⟨#[]⟩, .int .i64 0, .slice none 0 0, .slice none 0 0, .slice none 0 0])
  go_wp2_with (with_reducible refine wpList_storeG rfl 38 (.tmp 7) (.tmp 13) rfl RZ.out [.string ⟨#[]⟩, .string ⟨#[]⟩, .string ⟨#[]⟩, .string ⟨#[]⟩, .int .i64 0, .slice none 0 0, .slice none 0 0, .slice none 0 0] rfl rfl (len8 _ _ _ _ _ _ _ _ _ _ _ _ _ _ _ _) (size8 _ _ _ _ _ _ _ _) (ad_one _ _ _ _ _) ?_)
  intro w2 R1 G_
  have S2 := Lib.hid (below_store (w := w1) (T := 38) (zs := [.string ⟨#[]⟩, .string ⟨#[]⟩, .string ⟨#[]⟩, .string ⟨#[]⟩, .int .i64 0, .slice none 0 0, .slice none 0 0, .slice none 0 0]) (Below.refl _ _) G_.out)
  clear RZ G_
  have B2 := Lib.hid (bthen S1.out S2.out)
  clear S1 S2
  have k0 : w2.cell? ⟨w1.heap.size, 0, none⟩ = some (.string ⟨#[]⟩) := R1.out.cell 0
  have k1 : w2.cell? ⟨w1.heap.size, 1, none⟩ = some (.string ⟨#[]⟩) := R1.out.cell 1
  have k2 : w2.cell? ⟨w1.heap.size, 2, none⟩ = some (.string ⟨#[]⟩) := R1.out.cell 2
  have k3 : w2.cell? ⟨w1.heap.size, 3, none⟩ = some (.string ⟨#[]⟩) := R1.out.cell 3
  have k4 : w2.cell? ⟨w1.heap.size, 4, none⟩ = some (.int .i64 0) := R1.out.cell 4
  have k5 : w2.cell? ⟨w1.heap.size, 5, none⟩ = some (.slice none 0 0) := R1.out.cell 5
  have k6 : w2.cell? ⟨w1.heap.size, 6, none⟩ = some (.slice none 0 0) := R1.out.cell 6
  have k7 : w2.cell? ⟨w1.heap.size, 7, none⟩ = some (.slice none 0 0) := R1.out.cell 7
  clear R1
  go_wp2_with fail
  refine (samead_one AR0 none none none none none none 0 0 0 0 0 0 w2 (aarg_zero w2) (aarg_zero w2)).mono ?_
  rintro _ w3 ⟨rfl, hb3⟩
  have B3 := Lib.hid (bthen B2.out hb3)
  clear k0 k1 k2 k3 k4 k5 k6 k7
  go_wp2_with fail
  go_ret
  exact ⟨rfl, B3.out⟩
end Go.Proofs.YthfonniieaiocaaGreatDoor
namespace Go.Proofs.YthfonniieaiocaaGreatDoor
open Go.RowKit

theorem kh0 : hostL (byteL ⟨#[69, 120, 97, 109, 112, 108, 101, 46, 67, 79, 77]⟩) = some [101, 120, 97, 109, 112, 108, 101, 46, 99, 111, 109] := by kernel_rfl
theorem kh1 : hostL (byteL ⟨#[49, 48, 46, 48, 46, 48, 46, 49]⟩) = some [49, 48, 46, 48, 46, 48, 46, 49] := by kernel_rfl
theorem kh2 : hostL (byteL ⟨#[91, 50, 48, 48, 49, 58, 48, 68, 66, 56, 58, 58, 48, 49, 93]⟩) = some [91, 50, 48, 48, 49, 58, 100, 98, 56, 58, 58, 49, 93] := by kernel_rfl
theorem kh3 : hostL (byteL ⟨#[49, 46, 50, 46, 51]⟩) = none := by kernel_rfl
theorem kh4 : hostL (byteL ⟨#[48, 49, 46, 50, 46, 51, 46, 52]⟩) = none := by kernel_rfl
theorem kh5 : hostL (byteL ⟨#[97, 46, 46, 98]⟩) = none := by kernel_rfl
theorem kh6 : hostL (byteL ⟨#[45, 97]⟩) = none := by kernel_rfl
theorem kh7 : hostL (byteL ⟨#[91, 49, 58, 58, 50, 58, 58, 51, 93]⟩) = none := by kernel_rfl
theorem kh8 : hostL (byteL ⟨#[91, 58, 58, 93]⟩) = some [91, 58, 58, 93] := by kernel_rfl
theorem kh9 : hostL (byteL ⟨#[]⟩) = none := by kernel_rfl
theorem kr0 : uriL (byteL ⟨#[115, 105, 112, 58, 99, 58, 48]⟩) = .error (6, 3) := by kernel_rfl
theorem kr1 : uriL (byteL ⟨#[115, 105, 112]⟩) = .error (3, 5) := by kernel_rfl
theorem kr2 : uriL (byteL ⟨#[104, 116, 116, 112, 58, 97]⟩) = .error (0, 15) := by kernel_rfl
theorem kr3 : uriL (byteL ⟨#[115, 105, 112, 58, 64, 97]⟩) = .error (4, 5) := by kernel_rfl
theorem kr4 : uriL (byteL ⟨#[115, 105, 112, 58, 97, 64]⟩) = .error (6, 5) := by kernel_rfl
theorem kr5 : uriL (byteL ⟨#[115, 105, 112, 58, 97, 59, 98, 61]⟩) = .error (8, 5) := by kernel_rfl
theorem kr6 : uriL (byteL ⟨#[115, 105, 112, 58, 97, 59, 98, 59, 66]⟩) = .error (8, 7) := by kernel_rfl
theorem kr7 : uriL (byteL ⟨#[115, 105, 112, 58, 97, 63, 98]⟩) = .error (7, 5) := by kernel_rfl
theorem kr8 : uriL (byteL ⟨#[115, 105, 112, 58, 37, 48, 64, 97]⟩) = .error (4, 5) := by kernel_rfl
theorem kr9 : uriL (byteL ⟨#[116, 101, 108, 58, 43]⟩) = .error (4, 5) := by kernel_rfl
theorem kr10 : uriL (byteL ⟨#[116, 101, 108, 58, 43, 49, 42]⟩) = .error (6, 5) := by kernel_rfl
theorem kr11 : uriL (byteL ⟨#[115, 105, 112, 58, 97, 58, 49, 120]⟩) = .error (6, 5) := by kernel_rfl
theorem kr12 : uriL (byteL ⟨#[115, 105, 112, 58, 91, 58, 58, 49, 93, 120]⟩) = .error (9, 5) := by kernel_rfl
theorem kw0 : adrL (byteL ⟨#[115, 105, 112, 58, 97, 63, 98, 61, 99]⟩) = .error (5, 5) := by kernel_rfl
theorem kw1 : adrL (byteL ⟨#[34, 97, 34, 32, 115, 105, 112, 58, 98]⟩) = .error (4, 5) := by kernel_rfl
theorem kw2 : adrL (byteL ⟨#[97, 47, 98, 32, 60, 115, 105, 112, 58, 99, 62]⟩) = .error (1, 5) := by kernel_rfl
theorem kw3 : adrL (byteL ⟨#[60, 115, 105, 112, 58, 99]⟩) = .error (6, 5) := by kernel_rfl
theorem kw4 : adrL (byteL ⟨#[60, 115, 105, 112, 58, 99, 62, 120]⟩) = .error (7, 5) := by kernel_rfl
theorem kw5 : adrL (byteL ⟨#[60, 115, 105, 112, 58, 62]⟩) = .error (5, 5) := by kernel_rfl
theorem kw6 : adrL (byteL ⟨#[]⟩) = .error (0, 5) := by kernel_rfl
def KA : Adr := ⟨[66, 111, 98, 32, 76, 101, 101], ⟨[116, 101, 108], [43, 49, 50, 48, 49], [], 0, [], []⟩, [⟨[120], [], false⟩]⟩
def KB : Adr := ⟨[], ⟨[115, 105, 112], [97], [98], 0, [], []⟩, [⟨[116, 97, 103], [49], true⟩]⟩
theorem ka : adrL (byteL ⟨#[32, 66, 111, 98, 32, 32, 76, 101, 101, 32, 60, 116, 101, 108, 58, 43, 49, 45, 50, 48, 49, 62, 32, 59, 32, 120, 32]⟩) = .ok KA := by kernel_rfl
theorem kb : adrL (byteL ⟨#[115, 105, 112, 58, 97, 64, 98, 59, 116, 97, 103, 61, 49]⟩) = .ok KB := by kernel_rfl
theorem ku (w : World) : Calls Tryz.prog 18 #[.string ⟨#[37, 52, 49, 37, 122, 122]⟩] w fun e w' => e = .returned (.tuple #[.string ⟨#[]⟩, .int .i64 3, .int .u8 5]) ∧ Below w.heap.size w w' := by
  have h := unescape_any ⟨#[37, 52, 49, 37, 122, 122]⟩ w (by decide)
  rw [show unescV (byteL ⟨#[37, 52, 49, 37, 122, 122]⟩) = .tuple #[.string ⟨#[]⟩, .int .i64 3, .int .u8 5] by kernel_rfl] at h
  exact h
theorem ke (w : World) (hC : CLS w) : Calls Tryz.prog 16 #[.string ⟨#[97, 32, 98, 59, 99]⟩, .int .i64 1] w fun e w' => e = .returned (.string ⟨#[97, 37, 50, 48, 98, 37, 51, 66, 99]⟩) ∧ Below w.heap.size w w' := by
  have h := escape_any ⟨#[97, 32, 98, 59, 99]⟩ 1 w (by decide) hC
  rw [show strOfNums (escT 1 (byteL ⟨#[97, 32, 98, 59, 99]⟩)) = ⟨#[97, 37, 50, 48, 98, 37, 51, 66, 99]⟩ by kernel_rfl] at h
  exact h
theorem kq1 : parsL (byteL ⟨#[59, 97, 61, 49, 59, 65]⟩) = .error (5, 7) := by kernel_rfl
theorem kq2 : parsL (byteL ⟨#[59, 97, 61]⟩) = .error (3, 5) := by kernel_rfl
def KL : List Pm := [⟨[116, 97, 103], [97, 49], true⟩, ⟨[108, 114], [], false⟩]
theorem kq3 : parsL (byteL ⟨#[59, 116, 97, 103, 61, 97, 49, 32, 59, 32, 108, 114]⟩) = .ok KL := by kernel_rfl
def KP : List Pm := [⟨[116, 97, 103], [97, 32, 98], true⟩]
theorem kpp : ppsL KP = some [59, 116, 97, 103, 61, 34, 97, 32, 98, 34] := by kernel_rfl
theorem par_bad (s : ByteArray) {z : Nat} {k : Int} (h : parsL (byteL s) = .error (z, k)) (w : World) (hs : s.size ≤ 4000000) (hG : GM w) (hP : PT w) : Calls Tryz.prog 39 #[.string s] w fun e w' => e = .returned (.tuple #[.slice none 0 0, .int .i64 (z : Nat), .int .u8 k]) ∧ Below w.heap.size w w' := by
  refine (paramsh_any s w hs hG hP).mono ?_
  intro e w' hr
  rw [h] at hr
  exact ⟨hr.1, hr.2.1⟩
theorem par_good (s : ByteArray) {l : List Pm} (h : parsL (byteL s) = .ok l) (w : World) (hs : s.size ≤ 4000000) (hG : GM w) (hP : PT w) : Calls Tryz.prog 39 #[.string s] w fun e w' => ∃ A c, e = .returned (.tuple #[.slice A l.length c, .int .i64 0, .int .u8 0]) ∧ Below w.heap.size w w' ∧ Rds w' w'.heap.size A (pms l) := by
  refine (paramsh_any s w hs hG hP).mono ?_
  intro e w' hr
  rw [h] at hr
  obtain ⟨v, rfl, h1, _⟩ := hr
  obtain ⟨A, c, rfl, r1⟩ := h1.rdw
  exact ⟨A, c, rfl, h1.bw, r1⟩
theorem kprint (g : Nat) (w : World) (hr : Row w g 56 [.string ⟨#[116, 97, 103]⟩, .string ⟨#[97, 32, 98]⟩, .bool true]) (hG : GM w) (hP : PT w) : Calls Tryz.prog 40 #[.slice (some ⟨g, 0, none⟩) 1 1] w fun e w' => e = .returned (.tuple #[.string ⟨#[59, 116, 97, 103, 61, 34, 97, 32, 98, 34]⟩, .int .u8 0]) ∧ Below w.heap.size w w' := by
  have hs : ∀ p ∈ KP, pmSz p := by
    intro p hp
    obtain rfl : p = ⟨[116, 97, 103], [97, 32, 98], true⟩ := by simpa [KP] using hp
    exact ⟨byD rfl, byD rfl, by decide, by decide⟩
  have h := pprint_any (some ⟨g, 0, none⟩) 1 1 KP w (rds_row hr) rfl (Nat.le_refl _) (by decide) hs hG hP
  rw [kpp] at h
  exact h.mono fun e w' hr => ⟨hr.2, hr.1⟩
theorem ksame (A : Option Addr) (c g : Nat) (w : World) (hA : Rds w w.heap.size A (pms KL)) (hr : Row w g 56 [.string ⟨#[116, 97, 103]⟩, .string ⟨#[97, 49]⟩, .bool true, .string ⟨#[108, 114]⟩, .string ⟨#[]⟩, .bool false]) :
    Calls Tryz.prog 41 #[.slice A 2 c, .slice (some ⟨g, 0, none⟩) 2 2] w fun e w' => e = .returned (.bool true) ∧ ∃ q, w' = w.drewN q := by
  have hb : PmBy KL := by
    intro p hp
    have : p = ⟨[116, 97, 103], [97, 49], true⟩ ∨ p = ⟨[108, 114], [], false⟩ := by simpa [KL] using hp
    rcases this with rfl | rfl <;> exact ⟨byD rfl, byD rfl⟩
  have h := samepms_any A (some ⟨g, 0, none⟩) 2 c 2 2 KL KL w hA (rds_row hr) rfl rfl (by decide) (by decide) hb hb
  rw [samePs_iff.2 rfl] at h
  exact h
set_option maxRecDepth 100000 in
set_option maxHeartbeats 8000000 in
theorem known_any (w : World) (hC : CLS w) (hG : GM w) (hP : PT w) : Calls Tryz.prog 12 #[] w fun e w' => e = .returned (.bool true) ∧ Below w.heap.size w w' := by
  have HC := Lib.hid (fun w' (h : Below w.heap.size w w') => hC.below h)
  have HG := Lib.hid (fun w' (h : Below w.heap.size w w') => hG.below h)
  have HP := Lib.hid (fun w' (h : Below w.heap.size w w') => hP.below h)
  have AW := Lib.hid (fun w' (h : Below w.heap.size w w') => awake_any w' (hC.below h) (hG.below h) (hP.below h))
  have B := Lib.hid (Below.refl w.heap.size w)
  clear hC hG hP
  go_enter Tryz.func12, Tryz.ntmps12
  go_wp2_with fail
  refine (ku w).mono ?_
  rintro _ w1 ⟨rfl, hb⟩
  replace B := Lib.hid (bthen B.out hb)
  clear hb
  go_wp2_with fail
  refine (par_bad ⟨#[59, 97, 61, 49, 59, 65]⟩ kq1 w1 (by decide) (HG.out _ B.out) (HP.out _ B.out)).mono ?_
  rintro _ w2 ⟨rfl, hb⟩
  replace B := Lib.hid (bthen B.out hb)
  clear hb
  go_wp2_with fail
  refine (par_bad ⟨#[59, 97, 61]⟩ kq2 w2 (by decide) (HG.out _ B.out) (HP.out _ B.out)).mono ?_
  rintro _ w3 ⟨rfl, hb⟩
  replace B := Lib.hid (bthen B.out hb)
  clear hb
  go_wp2_with fail
  refine (par_good ⟨#[59, 116, 97, 103, 61, 97, 49, 32, 59, 32, 108, 114]⟩ kq3 w3 (by decide) (HG.out _ B.out) (HP.out _ B.out)).mono ?_
  rintro _ w4 ⟨Q, qc, rfl, hb, hq⟩
  have Q1 := Lib.hid hq
  replace B := Lib.hid (bthen B.out hb)
  clear hb hq
  have RP := Lib.hid (Row.new w4 56 [.string ⟨#[116, 97, 103]⟩, .string ⟨#[97, 32, 98]⟩, .bool true])
  have SP := Lib.hid ((Below.refl w4.heap.size w4).alloc (Nat.le_refl _) (.cells ([.string ⟨#[116, 97, 103]⟩, .string ⟨#[97, 32, 98]⟩, .bool true] : List Value).toArray 56))
  have BX := Lib.hid (bthen B.out SP.out)
  go_wp2_with fail
  refine (kprint _ _ RP.out (HG.out _ BX.out) (HP.out _ BX.out)).mono ?_
  rintro _ wp ⟨rfl, hb⟩
  replace Q1 := Lib.hid (((Q1.out.below SP.out).up SP.out.size).below hb |>.up hb.size)
  replace B := Lib.hid (bthen BX.out hb)
  clear hb RP SP BX
  go_wp2_with fail
  refine (ke wp (HC.out _ B.out)).mono ?_
  rintro _ w5 ⟨rfl, hb⟩
  replace Q1 := Lib.hid ((Q1.out.below hb).up hb.size)
  replace B := Lib.hid (bthen B.out hb)
  clear hb
  have RT := Lib.hid (Row.new w5 56 [.string ⟨#[116, 97, 103]⟩, .string ⟨#[97, 49]⟩, .bool true, .string ⟨#[108, 114]⟩, .string ⟨#[]⟩, .bool false])
  have ST := Lib.hid ((Below.refl w5.heap.size w5).alloc (Nat.le_refl _) (.cells ([.string ⟨#[116, 97, 103]⟩, .string ⟨#[97, 49]⟩, .bool true, .string ⟨#[108, 114]⟩, .string ⟨#[]⟩, .bool false] : List Value).toArray 56))
  go_wp2_with fail
  refine (ksame Q qc w5.heap.size _ ((Q1.out.below ST.out).up ST.out.size) RT.out).mono ?_
  rintro _ _ ⟨rfl, q, rfl⟩
  have ST2 := Lib.hid (show Below w5.heap.size w5 ((w5.alloc (.cells ([.string ⟨#[116, 97, 103]⟩, .string ⟨#[97, 49]⟩, .bool true, .string ⟨#[108, 114]⟩, .string ⟨#[]⟩, .bool false] : List Value).toArray 56)).drewN q) from ST.out.trans ⟨rfl, rfl, rfl, Nat.le_refl _, fun _ _ => rfl⟩)
  replace B := Lib.hid (bthen B.out ST2.out)
  clear RT ST ST2 Q1
  generalize (w5.alloc (.cells #[.string ⟨#[116, 97, 103]⟩, .string ⟨#[97, 49]⟩, .bool true, .string ⟨#[108, 114]⟩, .string ⟨#[]⟩, .bool false] 56)).drewN q = wq at *
  go_wp2_with fail
  refine (lhost_some ⟨#[69, 120, 97, 109, 112, 108, 101, 46, 67, 79, 77]⟩ [101, 120, 97, 109, 112, 108, 101, 46, 99, 111, 109] wq (by decide) kh0 (by decide) (HG.out _ B.out) (HP.out _ B.out)).mono ?_
  rintro _ w6 ⟨rfl, hb⟩
  replace B := Lib.hid (bthen B.out hb)
  clear hb
  go_wp2_with fail
  refine (lhost_some ⟨#[49, 48, 46, 48, 46, 48, 46, 49]⟩ [49, 48, 46, 48, 46, 48, 46, 49] w6 (by decide) kh1 (by decide) (HG.out _ B.out) (HP.out _ B.out)).mono ?_
  rintro _ w7 ⟨rfl, hb⟩
  replace B := Lib.hid (bthen B.out hb)
  clear hb
  go_wp2_with fail
  refine (lhost_some ⟨#[91, 50, 48, 48, 49, 58, 48, 68, 66, 56, 58, 58, 48, 49, 93]⟩ [91, 50, 48, 48, 49, 58, 100, 98, 56, 58, 58, 49, 93] w7 (by decide) kh2 (by decide) (HG.out _ B.out) (HP.out _ B.out)).mono ?_
  rintro _ w8 ⟨rfl, hb⟩
  replace B := Lib.hid (bthen B.out hb)
  clear hb
  go_wp2_with fail
  refine (lhost_none ⟨#[49, 46, 50, 46, 51]⟩ w8 (by decide) kh3 (HG.out _ B.out) (HP.out _ B.out)).mono ?_
  rintro _ w9 ⟨rfl, hb⟩
  replace B := Lib.hid (bthen B.out hb)
  clear hb
  go_wp2_with fail
  refine (lhost_none ⟨#[48, 49, 46, 50, 46, 51, 46, 52]⟩ w9 (by decide) kh4 (HG.out _ B.out) (HP.out _ B.out)).mono ?_
  rintro _ w10 ⟨rfl, hb⟩
  replace B := Lib.hid (bthen B.out hb)
  clear hb
  go_wp2_with fail
  refine (lhost_none ⟨#[97, 46, 46, 98]⟩ w10 (by decide) kh5 (HG.out _ B.out) (HP.out _ B.out)).mono ?_
  rintro _ w11 ⟨rfl, hb⟩
  replace B := Lib.hid (bthen B.out hb)
  clear hb
  go_wp2_with fail
  refine (lhost_none ⟨#[45, 97]⟩ w11 (by decide) kh6 (HG.out _ B.out) (HP.out _ B.out)).mono ?_
  rintro _ w12 ⟨rfl, hb⟩
  replace B := Lib.hid (bthen B.out hb)
  clear hb
  go_wp2_with fail
  refine (lhost_none ⟨#[91, 49, 58, 58, 50, 58, 58, 51, 93]⟩ w12 (by decide) kh7 (HG.out _ B.out) (HP.out _ B.out)).mono ?_
  rintro _ w13 ⟨rfl, hb⟩
  replace B := Lib.hid (bthen B.out hb)
  clear hb
  go_wp2_with fail
  refine (lhost_some ⟨#[91, 58, 58, 93]⟩ [91, 58, 58, 93] w13 (by decide) kh8 (by decide) (HG.out _ B.out) (HP.out _ B.out)).mono ?_
  rintro _ w14 ⟨rfl, hb⟩
  replace B := Lib.hid (bthen B.out hb)
  clear hb
  go_wp2_with fail
  refine (lhost_none ⟨#[]⟩ w14 (by decide) kh9 (HG.out _ B.out) (HP.out _ B.out)).mono ?_
  rintro _ w15 ⟨rfl, hb⟩
  replace B := Lib.hid (bthen B.out hb)
  clear hb
  go_wp2_with fail
  refine (refused_is ⟨#[115, 105, 112, 58, 99, 58, 48]⟩ 6 3 w15 kr0 (HC.out _ B.out) (HG.out _ B.out) (HP.out _ B.out)).mono ?_
  rintro _ w16 ⟨rfl, hb⟩
  replace B := Lib.hid (bthen B.out hb)
  clear hb
  go_wp2_with fail
  refine (refused_is ⟨#[115, 105, 112]⟩ 3 5 w16 kr1 (HC.out _ B.out) (HG.out _ B.out) (HP.out _ B.out)).mono ?_
  rintro _ w17 ⟨rfl, hb⟩
  replace B := Lib.hid (bthen B.out hb)
  clear hb
  go_wp2_with fail
  refine (refused_is ⟨#[104, 116, 116, 112, 58, 97]⟩ 0 15 w17 kr2 (HC.out _ B.out) (HG.out _ B.out) (HP.out _ B.out)).mono ?_
  rintro _ w18 ⟨rfl, hb⟩
  replace B := Lib.hid (bthen B.out hb)
  clear hb
  go_wp2_with fail
  refine (refused_is ⟨#[115, 105, 112, 58, 64, 97]⟩ 4 5 w18 kr3 (HC.out _ B.out) (HG.out _ B.out) (HP.out _ B.out)).mono ?_
  rintro _ w19 ⟨rfl, hb⟩
  replace B := Lib.hid (bthen B.out hb)
  clear hb
  go_wp2_with fail
  refine (refused_is ⟨#[115, 105, 112, 58, 97, 64]⟩ 6 5 w19 kr4 (HC.out _ B.out) (HG.out _ B.out) (HP.out _ B.out)).mono ?_
  rintro _ w20 ⟨rfl, hb⟩
  replace B := Lib.hid (bthen B.out hb)
  clear hb
  go_wp2_with fail
  refine (refused_is ⟨#[115, 105, 112, 58, 97, 59, 98, 61]⟩ 8 5 w20 kr5 (HC.out _ B.out) (HG.out _ B.out) (HP.out _ B.out)).mono ?_
  rintro _ w21 ⟨rfl, hb⟩
  replace B := Lib.hid (bthen B.out hb)
  clear hb
  go_wp2_with fail
  refine (refused_is ⟨#[115, 105, 112, 58, 97, 59, 98, 59, 66]⟩ 8 7 w21 kr6 (HC.out _ B.out) (HG.out _ B.out) (HP.out _ B.out)).mono ?_
  rintro _ w22 ⟨rfl, hb⟩
  replace B := Lib.hid (bthen B.out hb)
  clear hb
  go_wp2_with fail
  refine (refused_is ⟨#[115, 105, 112, 58, 97, 63, 98]⟩ 7 5 w22 kr7 (HC.out _ B.out) (HG.out _ B.out) (HP.out _ B.out)).mono ?_
  rintro _ w23 ⟨rfl, hb⟩
  replace B := Lib.hid (bthen B.out hb)
  clear hb
  go_wp2_with fail
  refine (refused_is ⟨#[115, 105, 112, 58, 37, 48, 64, 97]⟩ 4 5 w23 kr8 (HC.out _ B.out) (HG.out _ B.out) (HP.out _ B.out)).mono ?_
  rintro _ w24 ⟨rfl, hb⟩
  replace B := Lib.hid (bthen B.out hb)
  clear hb
  go_wp2_with fail
  refine (refused_is ⟨#[116, 101, 108, 58, 43]⟩ 4 5 w24 kr9 (HC.out _ B.out) (HG.out _ B.out) (HP.out _ B.out)).mono ?_
  rintro _ w25 ⟨rfl, hb⟩
  replace B := Lib.hid (bthen B.out hb)
  clear hb
  go_wp2_with fail
  refine (refused_is ⟨#[116, 101, 108, 58, 43, 49, 42]⟩ 6 5 w25 kr10 (HC.out _ B.out) (HG.out _ B.out) (HP.out _ B.out)).mono ?_
  rintro _ w26 ⟨rfl, hb⟩
  replace B := Lib.hid (bthen B.out hb)
  clear hb
  go_wp2_with fail
  refine (refused_is ⟨#[115, 105, 112, 58, 97, 58, 49, 120]⟩ 6 5 w26 kr11 (HC.out _ B.out) (HG.out _ B.out) (HP.out _ B.out)).mono ?_
  rintro _ w27 ⟨rfl, hb⟩
  replace B := Lib.hid (bthen B.out hb)
  clear hb
  go_wp2_with fail
  refine (refused_is ⟨#[115, 105, 112, 58, 91, 58, 58, 49, 93, 120]⟩ 9 5 w27 kr12 (HC.out _ B.out) (HG.out _ B.out) (HP.out _ B.out)).mono ?_
  rintro _ w28 ⟨rfl, hb⟩
  replace B := Lib.hid (bthen B.out hb)
  clear hb
  go_wp2_with fail
  refine (lwrong_is ⟨#[115, 105, 112, 58, 97, 63, 98, 61, 99]⟩ 5 5 w28 kw0 (HC.out _ B.out) (HG.out _ B.out) (HP.out _ B.out)).mono ?_
  rintro _ w29 ⟨rfl, hb⟩
  replace B := Lib.hid (bthen B.out hb)
  clear hb
  go_wp2_with fail
  refine (lwrong_is ⟨#[34, 97, 34, 32, 115, 105, 112, 58, 98]⟩ 4 5 w29 kw1 (HC.out _ B.out) (HG.out _ B.out) (HP.out _ B.out)).mono ?_
  rintro _ w30 ⟨rfl, hb⟩
  replace B := Lib.hid (bthen B.out hb)
  clear hb
  go_wp2_with fail
  refine (lwrong_is ⟨#[97, 47, 98, 32, 60, 115, 105, 112, 58, 99, 62]⟩ 1 5 w30 kw2 (HC.out _ B.out) (HG.out _ B.out) (HP.out _ B.out)).mono ?_
  rintro _ w31 ⟨rfl, hb⟩
  replace B := Lib.hid (bthen B.out hb)
  clear hb
  go_wp2_with fail
  refine (lwrong_is ⟨#[60, 115, 105, 112, 58, 99]⟩ 6 5 w31 kw3 (HC.out _ B.out) (HG.out _ B.out) (HP.out _ B.out)).mono ?_
  rintro _ w32 ⟨rfl, hb⟩
  replace B := Lib.hid (bthen B.out hb)
  clear hb
  go_wp2_with fail
  refine (lwrong_is ⟨#[60, 115, 105, 112, 58, 99, 62, 120]⟩ 7 5 w32 kw4 (HC.out _ B.out) (HG.out _ B.out) (HP.out _ B.out)).mono ?_
  rintro _ w33 ⟨rfl, hb⟩
  replace B := Lib.hid (bthen B.out hb)
  clear hb
  go_wp2_with fail
  refine (lwrong_is ⟨#[60, 115, 105, 112, 58, 62]⟩ 5 5 w33 kw5 (HC.out _ B.out) (HG.out _ B.out) (HP.out _ B.out)).mono ?_
  rintro _ w34 ⟨rfl, hb⟩
  replace B := Lib.hid (bthen B.out hb)
  clear hb
  go_wp2_with fail
  refine (lwrong_is ⟨#[]⟩ 0 5 w34 kw6 (HC.out _ B.out) (HG.out _ B.out) (HP.out _ B.out)).mono ?_
  rintro _ w35 ⟨rfl, hb⟩
  replace B := Lib.hid (bthen B.out hb)
  clear hb
  go_wp2_with fail
  refine (adr_good ⟨#[32, 66, 111, 98, 32, 32, 76, 101, 101, 32, 60, 116, 101, 108, 58, 43, 49, 45, 50, 48, 49, 62, 32, 59, 32, 120, 32]⟩ ka w35 (HC.out _ B.out) (HG.out _ B.out) (HP.out _ B.out)).mono ?_
  rintro e wa ⟨D1, D2, D3, d1, d2, d3, rfl, hb, _, _, _⟩
  have S1 := Lib.hid hb
  clear hb
  have RZ := Lib.hid (Row.new wa 38 [.string ⟨#[]⟩, .string ⟨#[]⟩, .string ⟨#[]⟩, .string ⟨#[]⟩, .int .i64 0, .slice none 0 0, .slice none 0 0, .slice none 0 0])
  go_wp2_with (with_reducible refine wpList_storeG rfl 38 (.tmp 19) (.tmp 183) rfl RZ.out [.string (strOfNums KA.ds), .string (strOfNums KA.u.sc), .string (strOfNums KA.u.us), .string (strOfNums KA.u.ho), .int .i64 KA.u.po, .slice D1 KA.u.ps.length d1, .slice D2 KA.u.hs.length d2, .slice D3 KA.ps.length d3] rfl rfl (len8 _ _ _ _ _ _ _ _ _ _ _ _ _ _ _ _) (size8 _ _ _ _ _ _ _ _) (ad_one _ _ _ _ _) ?_)
  intro wb R19 G_
  have S2 := Lib.hid (below_store (w := wa) (T := 38) (zs := [.string ⟨#[]⟩, .string ⟨#[]⟩, .string ⟨#[]⟩, .string ⟨#[]⟩, .int .i64 0, .slice none 0 0, .slice none 0 0, .slice none 0 0]) (Below.refl _ _) G_.out)
  clear RZ G_
  replace B := Lib.hid (bthen B.out (bthen S1.out S2.out))
  replace R19 := Lib.hid (show Row wb wa.heap.size 38 [.string (strOfNums KA.ds), .string (strOfNums KA.u.sc), .string (strOfNums KA.u.us), .string (strOfNums KA.u.ho), .int .i64 KA.u.po, .slice D1 0 d1, .slice D2 0 d2, .slice D3 1 d3] from R19.out)
  clear S1 S2
  generalize wa.heap.size = g19 at *
  go_wp2_with fail
  refine (adr_good ⟨#[115, 105, 112, 58, 97, 64, 98, 59, 116, 97, 103, 61, 49]⟩ kb wb (HC.out _ B.out) (HG.out _ B.out) (HP.out _ B.out)).mono ?_
  rintro e wc ⟨E1, E2, E3, e1, e2, e3, rfl, hb, _, _, _⟩
  have S1 := Lib.hid hb
  clear hb
  have RZ := Lib.hid (Row.new wc 38 [.string ⟨#[]⟩, .string ⟨#[]⟩, .string ⟨#[]⟩, .string ⟨#[]⟩, .int .i64 0, .slice none 0 0, .slice none 0 0, .slice none 0 0])
  go_wp2_with (with_reducible refine wpList_storeG rfl 38 (.tmp 22) (.tmp 188) rfl RZ.out [.string (strOfNums KB.ds), .string (strOfNums KB.u.sc), .string (strOfNums KB.u.us), .string (strOfNums KB.u.ho), .int .i64 KB.u.po, .slice E1 KB.u.ps.length e1, .slice E2 KB.u.hs.length e2, .slice E3 KB.ps.length e3] rfl rfl (len8 _ _ _ _ _ _ _ _ _ _ _ _ _ _ _ _) (size8 _ _ _ _ _ _ _ _) (ad_one _ _ _ _ _) ?_)
  intro wd R22 G_
  have S2 := Lib.hid (below_store (w := wc) (T := 38) (zs := [.string ⟨#[]⟩, .string ⟨#[]⟩, .string ⟨#[]⟩, .string ⟨#[]⟩, .int .i64 0, .slice none 0 0, .slice none 0 0, .slice none 0 0]) (Below.refl _ _) G_.out)
  clear RZ G_
  replace R19 := Lib.hid (R19.out.below (bthen S1.out S2.out))
  replace B := Lib.hid (bthen B.out (bthen S1.out S2.out))
  replace R22 := Lib.hid (show Row wd wc.heap.size 38 [.string (strOfNums KB.ds), .string (strOfNums KB.u.sc), .string (strOfNums KB.u.us), .string (strOfNums KB.u.ho), .int .i64 KB.u.po, .slice E1 0 e1, .slice E2 0 e2, .slice E3 1 e3] from R22.out)
  clear S1 S2
  generalize wc.heap.size = g22 at *
  have k0 : wd.cell? ⟨g19, 0, none⟩ = some (.string (strOfNums KA.ds)) := R19.out.cell 0
  have k2 : wd.cell? ⟨g19, 2, none⟩ = some (.string (strOfNums KA.u.us)) := R19.out.cell 2
  have k7 : wd.cell? ⟨g19, 7, none⟩ = some (.slice D3 1 d3) := R19.out.cell 7
  have m5 : wd.cell? ⟨g22, 5, none⟩ = some (.slice E1 0 e1) := R22.out.cell 5
  have m7 : wd.cell? ⟨g22, 7, none⟩ = some (.slice E3 1 e3) := R22.out.cell 7
  have ED : (strOfNums KA.ds).toList = [66, 111, 98, 32, 76, 101, 101] := by kernel_rfl
  have EU : (strOfNums KA.u.us).toList = [43, 49, 50, 48, 49] := by kernel_rfl
  go_wp2_with fail
  refine (AW.out _ B.out).mono ?_
  rintro _ we ⟨rfl, hb⟩
  replace B := Lib.hid (bthen B.out hb)
  clear hb
  go_wp2_with fail
  go_ret
  exact ⟨rfl, B.out⟩
end Go.Proofs.YthfonniieaiocaaGreatDoor
