/- The law's awake; what the parsers hand over. And what stands behind it. -/
import Derived.Test.YthfonniieaiocaaGreatDoorUr
import Derived.Test.YthfonniieaiocaaGreatDoorVg
import Derived.Below
import Derived.ChangeSame
import Derived.ProofKit
import Derived.WalkKit
import Derived.Test.YthfonniieaiocaaGreatDoorUx
import Derived.Test.YthfonniieaiocaaGreatDoorRows
import Derived.LaidMore
import Derived.OpenShut
import Derived.ShutString
import Derived.Stop.Joined
import Derived.Shelf.Vars
import Derived.Deep.DeepHandedRow
import Derived.Deep.Slices
import Derived.Deep.Fields
import Derived.Stop.LaidErr
set_option linter.unusedVariables false
set_option linter.unusedSimpArgs false
namespace Go.Proofs.YthfonniieaiocaaGreatDoor
open Go.RowKit

def uS (u : Uri) (A1 A2 : Option Addr) (c1 c2 : Nat) : Value := .agg #[.string (strOfNums u.sc), .string (strOfNums u.us), .string (strOfNums u.ho), .int .i64 u.po, .slice A1 u.ps.length c1, .slice A2 u.hs.length c2]
theorem byD {l : List Int} (h : l.all (fun x => decide (0 ≤ x ∧ x < 256)) = true) : By l := fun x hx => by simpa using List.all_eq_true.1 h x hx
theorem VX.rdw {w w' : World} {v : Value} {n : Nat} {cs : List Value} (H : VX 56 3 w v n cs w') : ∃ A c, v = .slice A n c ∧ Rds w' w'.heap.size A cs := by
  obtain ⟨K, A, c, hv, _, hK, hR⟩ := H.whole
  exact ⟨A, c, hv, hR w' fun r hr => (hK r hr).1⟩
theorem uriN_by {u : Uri} (h : UriN u) : UriBy u := by
  have h1 : By u.sc := by
    rcases h.k with h | h
    · rcases h.1 with h | h <;> rw [h] <;> exact byD rfl
    · rw [h.1]; exact byD rfl
  have h2 : By u.ho := by
    rcases h.k with h | h
    · exact h.2.2.1
    · rw [h.2.1]; exact fun x hx => by cases hx
  exact ⟨h1, h.us, h2, h.ps.by, h.hs.by⟩
theorem uarg_parsed {xs : List Int} {u : Uri} {w : World} {A1 A2 : Option Addr} (hx : By xs) (h : uriL xs = .ok u) (r1 : Rds w w.heap.size A1 (pms u.ps)) (r2 : Rds w w.heap.size A2 (pms u.hs)) : UArg w u A1 A2 := by
  have hn : UriN u := by have := uri_ok hx; rw [h] at this; exact this
  obtain ⟨s1, s2, s3, s4, s5⟩ := uri_sz h
  have hb := uriN_by hn
  exact ⟨hb, by omega, by omega, by omega, fun p hp => ⟨(hb.ps p hp).1, (hb.ps p hp).2, by have := s4 p hp; omega, by have := s4 p hp; omega⟩, fun p hp => ⟨(hb.hs p hp).1, (hb.hs p hp).2, by have := s5 p hp; omega, by have := s5 p hp; omega⟩, r1, r2, by have := hn.ps.len; omega, by have := hn.hs.len; omega⟩
theorem parse_good (s : ByteArray) {u : Uri} (h : uriL (byteL s) = .ok u) (w : World) (hC : CLS w) (hG : GM w) (hP : PT w) : Calls Tryz.prog 23 #[.string s] w fun e w' => ∃ A1 A2 c1 c2, e = .returned (.tuple #[uS u A1 A2 c1 c2, .int .i64 0, .int .u8 0]) ∧ Below w.heap.size w w' ∧ UArg w' u A1 A2 := by
  refine (parse_any s w hC hG hP).mono ?_
  intro e w' hr
  rw [h] at hr
  obtain ⟨v1, v2, rfl, h1, h2⟩ := hr
  have hb := h1.bw
  obtain ⟨A1, c1, rfl, r1⟩ := h1.rdw
  obtain ⟨A2, c2, rfl, r2⟩ := h2.rdw
  exact ⟨A1, A2, c1, c2, rfl, hb, uarg_parsed (byteL_by s) h r1 r2⟩
theorem parse_wrong (s : ByteArray) {n : Nat} {k : Int} (h : uriL (byteL s) = .error (n, k)) (w : World) (hC : CLS w) (hG : GM w) (hP : PT w) : Calls Tryz.prog 23 #[.string s] w fun e w' => e = .returned (.tuple #[.agg #[.string ⟨#[]⟩, .string ⟨#[]⟩, .string ⟨#[]⟩, .int .i64 0, .slice none 0 0, .slice none 0 0], .int .i64 (n : Nat), .int .u8 k]) ∧ Below w.heap.size w w' := by
  refine (parse_any s w hC hG hP).mono ?_
  intro e w' hr
  rw [h] at hr
  exact ⟨hr.1, hr.2.1⟩
def AW1 : Uri := ⟨[115, 105, 112], [65, 108, 105, 99, 101], [101, 120, 97, 109, 112, 108, 101, 46, 99, 111, 109], 5070, [⟨[97], [65], true⟩, ⟨[108, 114], [], false⟩], []⟩
theorem aw1 : uriL (byteL ⟨#[83, 73, 80, 58, 65, 108, 37, 54, 57, 99, 101, 64, 69, 120, 97, 109, 112, 108, 101, 46, 99, 111, 109, 58, 53, 48, 55, 48, 59, 76, 82, 59, 97, 61, 37, 52, 49]⟩) = .ok AW1 := by kernel_rfl
theorem rds_row {w : World} {g : Nat} {vs : List Value} (h : Row w g 56 vs) : Rds w w.heap.size (some ⟨g, 0, none⟩) vs := fun _ => ⟨g, 0, rfl, h.lt, fun j u hj => h.range j u hj⟩
theorem aw_same (A1 A2 : Option Addr) (c1 c2 g : Nat) (w : World) (H : UArg w AW1 A1 A2) (hr : Row w g 56 [.string ⟨#[97]⟩, .string ⟨#[65]⟩, .bool true, .string ⟨#[108, 114]⟩, .string ⟨#[]⟩, .bool false]) :
    Calls Tryz.prog 25 #[uS AW1 A1 A2 c1 c2, .agg #[.string ⟨#[115, 105, 112]⟩, .string ⟨#[65, 108, 105, 99, 101]⟩, .string ⟨#[101, 120, 97, 109, 112, 108, 101, 46, 99, 111, 109]⟩, .int .i64 5070, .slice (some ⟨g, 0, none⟩) 2 2, .slice none 0 0]] w fun e w' => e = .returned (.bool true) ∧ Below w.heap.size w w' := by
  have h := same_any AW1 AW1 A1 A2 (some ⟨g, 0, none⟩) none 2 0 2 0 c1 c2 2 0 w H.by_ H.by_ rfl rfl rfl rfl H.r1 H.r2 (rds_row hr) (fun h => absurd h (by decide)) (by decide) (by decide) (by decide) (by decide)
  rw [sameU_iff.2 rfl] at h
  exact h
def AW2 : Uri := ⟨[115, 105, 112], [97, 32, 98], [72], 0, [⟨[88], [], false⟩], []⟩
theorem aw2 : printU AW2 = some [115, 105, 112, 58, 97, 37, 50, 48, 98, 64, 104, 59, 120] := by kernel_rfl
theorem aw_print (g : Nat) (w : World) (hr : Row w g 56 [.string ⟨#[88]⟩, .string ⟨#[]⟩, .bool false]) (hC : CLS w) (hG : GM w) (hP : PT w) :
    Calls Tryz.prog 29 #[.agg #[.string ⟨#[115, 105, 112]⟩, .string ⟨#[97, 32, 98]⟩, .string ⟨#[72]⟩, .int .i64 0, .slice (some ⟨g, 0, none⟩) 1 1, .slice none 0 0]] w fun e w' => e = .returned (.tuple #[.string ⟨#[115, 105, 112, 58, 97, 37, 50, 48, 98, 64, 104, 59, 120]⟩, .int .u8 0]) ∧ Below w.heap.size w w' := by
  have hs : ∀ p ∈ AW2.ps, pmSz p := by
    intro p hp
    obtain rfl : p = ⟨[88], [], false⟩ := by simpa [AW2] using hp
    exact ⟨byD rfl, byD rfl, by decide, by decide⟩
  have hb : UriBy AW2 := ⟨byD rfl, byD rfl, byD rfl, (fun p hp => ⟨(hs p hp).1, (hs p hp).2.1⟩), fun p hp => by cases hp⟩
  have h := print_any AW2 (some ⟨g, 0, none⟩) none 1 0 w ⟨hb, by decide, by decide, by decide, hs, (fun p hp => by cases hp), rds_row hr, (fun h => absurd h (by decide)), by decide, by decide⟩ hC hG hP
  rw [aw2] at h
  exact h.mono fun e w' hr => ⟨hr.2, hr.1⟩
theorem aw3 : uriL (byteL ⟨#[115, 105, 112, 58, 97, 58, 98, 64, 99]⟩) = .error (5, 15) := by kernel_rfl
def AW4 : Adr := ⟨[65, 46, 32, 66], ⟨[115, 105, 112], [97], [98], 0, [⟨[120], [], false⟩], []⟩, [⟨[116, 97, 103], [49], true⟩]⟩
theorem aw4 : adrL (byteL ⟨#[34, 65, 46, 32, 66, 34, 32, 60, 115, 105, 112, 58, 97, 64, 98, 59, 120, 62, 59, 116, 97, 103, 61, 49]⟩) = .ok AW4 := by kernel_rfl

theorem adr_good (s : ByteArray) {a : Adr} (h : adrL (byteL s) = .ok a) (w : World) (hC : CLS w) (hG : GM w) (hP : PT w) : Calls Tryz.prog 26 #[.string s] w fun e w' => ∃ A1 A2 A3 c1 c2 c3, e = .returned (.tuple #[.agg #[.string (strOfNums a.ds), .string (strOfNums a.u.sc), .string (strOfNums a.u.us), .string (strOfNums a.u.ho), .int .i64 a.u.po, .slice A1 a.u.ps.length c1, .slice A2 a.u.hs.length c2, .slice A3 a.ps.length c3], .int .i64 0, .int .u8 0]) ∧ Below w.heap.size w w' ∧ Rds w' w'.heap.size A1 (pms a.u.ps) ∧ Rds w' w'.heap.size A2 (pms a.u.hs) ∧ Rds w' w'.heap.size A3 (pms a.ps) := by
  refine (parseadr_any s w hC hG hP).mono ?_
  intro e w' hr
  rw [h] at hr
  obtain ⟨v1, v2, v3, rfl, h1, h2, h3⟩ := hr
  have hb := h1.bw
  obtain ⟨A1, c1, rfl, r1⟩ := h1.rdw
  obtain ⟨A2, c2, rfl, r2⟩ := h2.rdw
  obtain ⟨A3, c3, rfl, r3⟩ := h3.rdw
  exact ⟨A1, A2, A3, c1, c2, c3, rfl, hb, r1, r2, r3⟩
theorem aw_tag (A : Option Addr) (c g : Nat) (w : World) (hA : Rds w w.heap.size A (pms AW4.ps)) (hr : Row w g 56 [.string ⟨#[116, 97, 103]⟩, .string ⟨#[49]⟩, .bool true]) :
    Calls Tryz.prog 41 #[.slice A AW4.ps.length c, .slice (some ⟨g, 0, none⟩) 1 1] w fun e w' => e = .returned (.bool true) ∧ ∃ q, w' = w.drewN q := by
  have hb : PmBy AW4.ps := by
    intro p hp
    obtain rfl : p = ⟨[116, 97, 103], [49], true⟩ := by simpa [AW4] using hp
    exact ⟨byD rfl, byD rfl⟩
  have h := samepms_any A (some ⟨g, 0, none⟩) 1 c 1 1 AW4.ps AW4.ps w hA (rds_row hr) rfl rfl (by decide) (by decide) hb hb
  rw [samePs_iff.2 rfl] at h
  exact h
theorem aw_x (A : Option Addr) (c g : Nat) (w : World) (hA : Rds w w.heap.size A (pms AW4.u.ps)) (hr : Row w g 56 [.string ⟨#[120]⟩, .string ⟨#[]⟩, .bool false]) :
    Calls Tryz.prog 41 #[.slice A AW4.u.ps.length c, .slice (some ⟨g, 0, none⟩) 1 1] w fun e w' => e = .returned (.bool true) ∧ ∃ q, w' = w.drewN q := by
  have hb : PmBy AW4.u.ps := by
    intro p hp
    obtain rfl : p = ⟨[120], [], false⟩ := by simpa [AW4] using hp
    exact ⟨byD rfl, byD rfl⟩
  have h := samepms_any A (some ⟨g, 0, none⟩) 1 c 1 1 AW4.u.ps AW4.u.ps w hA (rds_row hr) rfl rfl (by decide) (by decide) hb hb
  rw [samePs_iff.2 rfl] at h
  exact h
set_option maxRecDepth 100000 in
set_option maxHeartbeats 2000000 in
theorem awake_any (w : World) (hC : CLS w) (hG : GM w) (hP : PT w) : Calls Tryz.prog 22 #[] w fun e w' => e = .returned (.bool true) ∧ Below w.heap.size w w' := by
  have HC := kd (fun w' (h : Below w.heap.size w w') => hC.below h)
  have HG := kd (fun w' (h : Below w.heap.size w w') => hG.below h)
  have HP := kd (fun w' (h : Below w.heap.size w w') => hP.below h)
  clear hC hG hP
  go_enter Tryz.func22, Tryz.ntmps22
  go_wp2_with fail
  refine (parse_good ⟨#[83, 73, 80, 58, 65, 108, 37, 54, 57, 99, 101, 64, 69, 120, 97, 109, 112, 108, 101, 46, 99, 111, 109, 58, 53, 48, 55, 48, 59, 76, 82, 59, 97, 61, 37, 52, 49]⟩ aw1 w (HC.out _ (Below.refl _ _)) (HG.out _ (Below.refl _ _)) (HP.out _ (Below.refl _ _))).mono ?_
  rintro e w1 ⟨A1, A2, c1, c2, rfl, hb1, ua1⟩
  have B1 := kd hb1
  have UA := kd ua1
  clear hb1 ua1
  unfold uS
  have RZ := kd (Row.new w1 32 [.string ⟨#[]⟩, .string ⟨#[]⟩, .string ⟨#[]⟩, .int .i64 0, .slice none 0 0, .slice none 0 0])
  go_wp2_with (with_reducible refine wpList_storeG rfl 32 (.tmp 1) (.tmp 15) rfl RZ.out [.string (strOfNums AW1.sc), .string (strOfNums AW1.us), .string (strOfNums AW1.ho), .int .i64 AW1.po, .slice A1 AW1.ps.length c1, .slice A2 AW1.hs.length c2] rfl rfl (lenU _ _ _ _ _ _ _ _ _ _ _ _) (sizeU _ _ _ _ _ _) (u_one _ _ _ _) ?_)
  intro w2 R1 G_
  have S1 := kd (below_store (w := w1) (T := 32) (zs := [.string ⟨#[]⟩, .string ⟨#[]⟩, .string ⟨#[]⟩, .int .i64 0, .slice none 0 0, .slice none 0 0]) (Below.refl _ _) G_.out)
  clear RZ G_
  have B2 := kd (bthen B1.out S1.out)
  have UA := kd (UA.out.step S1.out)
  clear B1 S1
  have RP := kd (Row.new w2 56 [.string ⟨#[97]⟩, .string ⟨#[65]⟩, .bool true, .string ⟨#[108, 114]⟩, .string ⟨#[]⟩, .bool false])
  have SP := kd ((Below.refl w2.heap.size w2).alloc (Nat.le_refl _) (.cells ([.string ⟨#[97]⟩, .string ⟨#[65]⟩, .bool true, .string ⟨#[108, 114]⟩, .string ⟨#[]⟩, .bool false] : List Value).toArray 56))
  obtain ⟨_, RZ, _⟩ := two_rows w2 56 32 [.string ⟨#[97]⟩, .string ⟨#[65]⟩, .bool true, .string ⟨#[108, 114]⟩, .string ⟨#[]⟩, .bool false] [.string ⟨#[]⟩, .string ⟨#[]⟩, .string ⟨#[]⟩, .int .i64 0, .slice none 0 0, .slice none 0 0]
  have RZ := kd RZ
  go_wp2_with (with_reducible refine wpList_storeG rfl 32 (.tmp 4) (.tmp 21) rfl RZ.out [.string ⟨#[115, 105, 112]⟩, .string ⟨#[65, 108, 105, 99, 101]⟩, .string ⟨#[101, 120, 97, 109, 112, 108, 101, 46, 99, 111, 109]⟩, .int .i64 5070, .slice (some ⟨w2.heap.size, 0, none⟩) 2 2, .slice none 0 0] rfl rfl (lenU _ _ _ _ _ _ _ _ _ _ _ _) (sizeU _ _ _ _ _ _) (u_one _ _ _ _) ?_)
  intro w3 R2 G_
  have S2 := kd (below_store (w := (w2.alloc (.cells ([.string ⟨#[97]⟩, .string ⟨#[65]⟩, .bool true, .string ⟨#[108, 114]⟩, .string ⟨#[]⟩, .bool false] : List Value).toArray 56))) (T := 32) (zs := [.string ⟨#[]⟩, .string ⟨#[]⟩, .string ⟨#[]⟩, .int .i64 0, .slice none 0 0, .slice none 0 0]) (Below.refl _ _) (by rw [World.size_alloc]; exact G_.out))
  clear RZ G_
  replace RP := kd (RP.out.below S2.out)
  have S3 := kd (bthen SP.out S2.out)
  have B3 := kd (bthen B2.out S3.out)
  replace R1 := kd (R1.out.below S3.out)
  replace UA := kd (UA.out.step S3.out)
  clear B2 S2 S3 SP
  generalize w1.heap.size = g1 at *
  generalize w2.heap.size + 1 = g2 at *
  generalize w2.heap.size = gp at *
  have RX := kd (Row.new w3 56 [.string ⟨#[88]⟩, .string ⟨#[]⟩, .bool false])
  have SX := kd ((Below.refl w3.heap.size w3).alloc (Nat.le_refl _) (.cells ([.string ⟨#[88]⟩, .string ⟨#[]⟩, .bool false] : List Value).toArray 56))
  have BX := kd (bthen B3.out SX.out)
  go_wp2_with fail
  refine (aw_print _ _ RX.out (HC.out _ BX.out) (HG.out _ BX.out) (HP.out _ BX.out)).mono ?_
  rintro e w4 ⟨rfl, hb4⟩
  have S4 := kd (bthen SX.out hb4)
  have B4 := kd (bthen B3.out S4.out)
  replace R1 := kd (R1.out.below S4.out)
  replace R2 := kd (R2.out.below S4.out)
  replace RP := kd (RP.out.below S4.out)
  replace UA := kd (UA.out.step S4.out)
  clear B3 S4 RX SX BX hb4
  go_wp2_with fail
  refine (parse_wrong ⟨#[115, 105, 112, 58, 97, 58, 98, 64, 99]⟩ aw3 w4 (HC.out _ B4.out) (HG.out _ B4.out) (HP.out _ B4.out)).mono ?_
  rintro e w5 ⟨rfl, hb5⟩
  have S5 := kd hb5
  clear hb5
  have RZ := kd (Row.new w5 32 [.string ⟨#[]⟩, .string ⟨#[]⟩, .string ⟨#[]⟩, .int .i64 0, .slice none 0 0, .slice none 0 0])
  go_wp2_with (with_reducible refine wpList_storeG rfl 32 (.tmp 7) (.tmp 31) rfl RZ.out [.string ⟨#[]⟩, .string ⟨#[]⟩, .string ⟨#[]⟩, .int .i64 0, .slice none 0 0, .slice none 0 0] rfl rfl (lenU _ _ _ _ _ _ _ _ _ _ _ _) (sizeU _ _ _ _ _ _) (u_one _ _ _ _) ?_)
  intro w6 R5 G_
  have S6 := kd (below_store (w := w5) (T := 32) (zs := [.string ⟨#[]⟩, .string ⟨#[]⟩, .string ⟨#[]⟩, .int .i64 0, .slice none 0 0, .slice none 0 0]) (Below.refl _ _) G_.out)
  clear RZ G_
  have S7 := kd (bthen S5.out S6.out)
  have B6 := kd (bthen B4.out S7.out)
  replace R1 := kd (R1.out.below S7.out)
  replace R2 := kd (R2.out.below S7.out)
  replace RP := kd (RP.out.below S7.out)
  replace UA := kd (UA.out.step S7.out)
  clear B4 S5 S6 S7 R5
  go_wp2_with fail
  refine (adr_good ⟨#[34, 65, 46, 32, 66, 34, 32, 60, 115, 105, 112, 58, 97, 64, 98, 59, 120, 62, 59, 116, 97, 103, 61, 49]⟩ aw4 w6 (HC.out _ B6.out) (HG.out _ B6.out) (HP.out _ B6.out)).mono ?_
  rintro e w7 ⟨D1, D2, D3, d1, d2, d3, rfl, hb7, r1, r2, r3⟩
  have S8 := kd hb7
  have Q1 := kd r1
  have Q3 := kd r3
  clear hb7 r1 r2 r3
  have RZ := kd (Row.new w7 38 [.string ⟨#[]⟩, .string ⟨#[]⟩, .string ⟨#[]⟩, .string ⟨#[]⟩, .int .i64 0, .slice none 0 0, .slice none 0 0, .slice none 0 0])
  go_wp2_with (with_reducible refine wpList_storeG rfl 38 (.tmp 10) (.tmp 36) rfl RZ.out [.string (strOfNums AW4.ds), .string (strOfNums AW4.u.sc), .string (strOfNums AW4.u.us), .string (strOfNums AW4.u.ho), .int .i64 AW4.u.po, .slice D1 AW4.u.ps.length d1, .slice D2 AW4.u.hs.length d2, .slice D3 AW4.ps.length d3] rfl rfl (len8 _ _ _ _ _ _ _ _ _ _ _ _ _ _ _ _) (size8 _ _ _ _ _ _ _ _) (ad_one _ _ _ _ _) ?_)
  intro w8 R8 G_
  have S9 := kd (below_store (w := w7) (T := 38) (zs := [.string ⟨#[]⟩, .string ⟨#[]⟩, .string ⟨#[]⟩, .string ⟨#[]⟩, .int .i64 0, .slice none 0 0, .slice none 0 0, .slice none 0 0]) (Below.refl _ _) G_.out)
  clear RZ G_
  have S10 := kd (bthen S8.out S9.out)
  have B8 := kd (bthen B6.out S10.out)
  replace R1 := kd (R1.out.below S10.out)
  replace R2 := kd (R2.out.below S10.out)
  replace RP := kd (RP.out.below S10.out)
  replace UA := kd (UA.out.step S10.out)
  replace Q1 := kd ((Q1.out.below S9.out).up S9.out.size)
  replace Q3 := kd ((Q3.out.below S9.out).up S9.out.size)
  clear B6 S8 S9 S10 HC HG HP
  generalize w7.heap.size = g7 at *
  have V2 := kd (show Row w8 g2 32 [.string ⟨#[115, 105, 112]⟩, .string ⟨#[65, 108, 105, 99, 101]⟩, .string ⟨#[101, 120, 97, 109, 112, 108, 101, 46, 99, 111, 109]⟩, .int .i64 5070, .slice (some ⟨gp, 0, none⟩) 2 2, .slice none 0 0] from R2.out)
  have k0 : w8.cell? ⟨g1, 0, none⟩ = some (.string (strOfNums AW1.sc)) := R1.out.cell 0
  have k1 : w8.cell? ⟨g1, 1, none⟩ = some (.string (strOfNums AW1.us)) := R1.out.cell 1
  have k2 : w8.cell? ⟨g1, 2, none⟩ = some (.string (strOfNums AW1.ho)) := R1.out.cell 2
  have k3 : w8.cell? ⟨g1, 3, none⟩ = some (.int .i64 AW1.po) := R1.out.cell 3
  have k4 : w8.cell? ⟨g1, 4, none⟩ = some (.slice A1 AW1.ps.length c1) := R1.out.cell 4
  have k5 : w8.cell? ⟨g1, 5, none⟩ = some (.slice A2 AW1.hs.length c2) := R1.out.cell 5
  have m0 : w8.cell? ⟨g2, 0, none⟩ = some (.string ⟨#[115, 105, 112]⟩) := R2.out.cell 0
  have m1 : w8.cell? ⟨g2, 1, none⟩ = some (.string ⟨#[65, 108, 105, 99, 101]⟩) := R2.out.cell 1
  have m2 : w8.cell? ⟨g2, 2, none⟩ = some (.string ⟨#[101, 120, 97, 109, 112, 108, 101, 46, 99, 111, 109]⟩) := R2.out.cell 2
  have m3 : w8.cell? ⟨g2, 3, none⟩ = some (.int .i64 5070) := R2.out.cell 3
  have m4 : w8.cell? ⟨g2, 4, none⟩ = some (.slice (some ⟨gp, 0, none⟩) 2 2) := R2.out.cell 4
  have m5 : w8.cell? ⟨g2, 5, none⟩ = some (.slice none 0 0) := R2.out.cell 5
  have RR8 := R8.out
  have R8 := kd RR8
  clear RR8 R1 R2 V2
  go_wp2_with fail
  refine (aw_same A1 A2 c1 c2 gp w8 UA.out RP.out).mono ?_
  rintro _ w9 ⟨rfl, hb9⟩
  have B9 := kd (bthen B8.out hb9)
  replace R8 := kd (R8.out.below hb9)
  replace Q1 := kd ((Q1.out.below hb9).up hb9.size)
  replace Q3 := kd ((Q3.out.below hb9).up hb9.size)
  clear B8 hb9 UA RP k0 k1 k2 k3 k4 k5 m0 m1 m2 m3 m4 m5
  have k0 : w9.cell? ⟨g7, 0, none⟩ = some (.string (strOfNums AW4.ds)) := R8.out.cell 0
  have k5 : w9.cell? ⟨g7, 5, none⟩ = some (.slice D1 AW4.u.ps.length d1) := R8.out.cell 5
  have k7 : w9.cell? ⟨g7, 7, none⟩ = some (.slice D3 AW4.ps.length d3) := R8.out.cell 7
  have ED : (strOfNums AW4.ds).toList = [65, 46, 32, 66] := by kernel_rfl
  have RT := kd (Row.new w9 56 [.string ⟨#[116, 97, 103]⟩, .string ⟨#[49]⟩, .bool true])
  have ST := kd ((Below.refl w9.heap.size w9).alloc (Nat.le_refl _) (.cells ([.string ⟨#[116, 97, 103]⟩, .string ⟨#[49]⟩, .bool true] : List Value).toArray 56))
  go_wp2_with fail
  refine (aw_tag D3 d3 w9.heap.size _ ((Q3.out.below ST.out).up ST.out.size) RT.out).mono ?_
  rintro _ _ ⟨rfl, q, rfl⟩
  have ST2 := kd (show Below w9.heap.size w9 ((w9.alloc (.cells ([.string ⟨#[116, 97, 103]⟩, .string ⟨#[49]⟩, .bool true] : List Value).toArray 56)).drewN q) from ST.out.trans ⟨rfl, rfl, rfl, Nat.le_refl _, fun _ _ => rfl⟩)
  have B10 := kd (bthen B9.out ST2.out)
  replace R8 := kd (R8.out.below ST2.out)
  replace Q1 := kd ((Q1.out.below ST2.out).up ST2.out.size)
  clear k0 k5 k7 ED RT ST ST2 Q3 B9
  generalize (w9.alloc (.cells #[.string ⟨#[116, 97, 103]⟩, .string ⟨#[49]⟩, .bool true] 56)).drewN q = w10 at *
  have k5 : w10.cell? ⟨g7, 5, none⟩ = some (.slice D1 AW4.u.ps.length d1) := R8.out.cell 5
  have RT := kd (Row.new w10 56 [.string ⟨#[120]⟩, .string ⟨#[]⟩, .bool false])
  have ST := kd ((Below.refl w10.heap.size w10).alloc (Nat.le_refl _) (.cells ([.string ⟨#[120]⟩, .string ⟨#[]⟩, .bool false] : List Value).toArray 56))
  have B11 := kd (bthen B10.out ST.out)
  go_wp2_with fail
  refine (aw_x D1 d1 w10.heap.size _ ((Q1.out.below ST.out).up ST.out.size) RT.out).mono ?_
  rintro _ _ ⟨rfl, q2, rfl⟩
  go_wp2_with fail
  go_ret
  exact ⟨rfl, B11.out.trans ⟨rfl, rfl, rfl, Nat.le_refl _, fun _ _ => rfl⟩⟩

open Go.RowKit Go.WideShapes Go.ChangeShapes

section
variable {H : Type} {enc : TypeId × Value → H} {P : Program}
theorem post_kept {f : Func} {s : ChangeSpec} {apart fresh handsOn again : Bool} {W W' : World} {args : Array Value} {v : Value} {ds gs : List (DataW H)} {before pa pv : List MemPlace}
    (hW : DataW.Whole enc P f.params.toList s.vars apart W args.toList ds gs before)
    (hres : ∀ (b : Nat) (sp : Nat → Bool) (hd : Bool), DataW.TrodAll enc P W' b sp hd f.resultTypes.toList (v.resultList f.resultTypes.size) (s.fn H (ds ++ gs)).results [])
    (hargs : ∀ sp : Nat → Bool, (∀ p ∈ before, sp p.block = true) → DataW.TrodAll enc P W' 0 sp true f.params.toList args.toList (s.fn H (ds ++ gs)).args pa)
    (hvars : ∀ sp : Nat → Bool, (∀ p ∈ before, sp p.block = true) → DataW.TrodVars enc P W' sp s.vars (s.fn H (ds ++ gs)).vars pv)
    (hps : before = pa ++ pv) (hb : Below W.heap.size W W')
    (hok : ∀ (j : Nat) (t : TypeId) (r : Value), f.resultTypes[j]? = some t → (v.resultList f.resultTypes.size)[j]? = some r → Value.okWide P W' .any 0 t r) :
    s.post enc P f apart fresh handsOn again W args v W' := by
  have hlt : ∀ p ∈ before, p.block < W.heap.size := fun p hp => hW.lt p hp
  have hold : ∀ p ∈ before, (fun b => decide (b < W.heap.size)) p.block = true := fun p hp => by simpa using hlt p hp
  refine ⟨ds, gs, before, [], pa, pv, hW, hres _ _ _, hargs _ hold, hvars _ hold, World.keptBut_mono (fun p hp => ⟨hp, ?_⟩) (hb.frame (· ∈ before)), fun _ => ?_⟩
  · rw [hps, List.mem_append] at hp
    exact Or.inr hp
  · obtain ⟨_, _, _, _, _, hz, hn⟩ := hW
    refine ⟨hok, _, _, ([] ++ pa) ++ pv, ⟨[] ++ pa, pv, trodAll_append (hargs _ (fun _ _ => rfl)) (hres _ _ _), hvars _ (fun _ _ => rfl), rfl, ?_, ?_⟩, ?_⟩
    · intro b off hp
      have hin : MemPlace.cell b off ∈ before := by rw [hps]; simpa using hp
      rw [hb.frozen (hlt _ hin)]
      exact hz b off hin
    · intro ha
      have := hn ha
      rw [hps] at this
      simpa using this
    · intro p hp _
      rw [hps]
      simpa using hp
end

theorem trodAll_stays {H : Type} {enc : TypeId × Value → H} {P : Program} (hl : laidOutB P = true) {W W' : World} (hb : Below W.heap.size W W') {sp : Nat → Bool} :
    ∀ {ts : List TypeId} {vs : List Value} {ds : List (DataW H)} {ps : List MemPlace}, (∀ t ∈ ts, P.readableRec t = true ∧ t < P.types.size) → DataW.TrodAll enc P W 0 (fun _ => true) true ts vs ds ps → (∀ x ∈ ps, x.block < W.heap.size) → (∀ x ∈ ps, sp x.block = true) →
    DataW.TrodAll enc P W' 0 sp true ts vs ds ps
  | [], [], [], _, _, h, _, _ => h
  | t :: ts, v :: vs, d :: ds, _, hT, ⟨p, q, h1, h2, e⟩, hlt, hs => by
    subst e
    refine ⟨p, q, ?_, ?_, rfl⟩
    · exact WideElems.Trod_stays hl (hT t (by simp)).1 (hT t (by simp)).2 h1 (fun x hx => hb.same (hlt x (List.mem_append_left _ hx))) (fun x hx => hs x (List.mem_append_left _ hx))
    · exact trodAll_stays hl hb (fun t ht => hT t (by simp [ht])) h2 (fun x hx => hlt x (List.mem_append_right _ hx)) (fun x hx => hs x (List.mem_append_right _ hx))
  | [], [], _ :: _, _, _, h, _, _ => h.elim
  | [], _ :: _, _, _, _, h, _, _ => h.elim
  | _ :: _, [], _, _, _, h, _, _ => h.elim
  | _ :: _, _ :: _, [], _, _, h, _, _ => h.elim
open Go.ChangeShapes Go.WideShapes Go.ChangeAt Go.RowKit
open Go.ChangeMaps (open_string shut_string)

section
variable {H : Type} {enc : TypeId × Value → H}
end
theorem own : ownKnob Tryz.prog.godebug = none := by kernel_rfl
theorem laidOut : laidOutB Tryz.prog = true := by kernel_rfl
def LDk : List (String × DataW Unit) := [("math/bits.deBruijn32tab", Rows.laid_math_bits_deBruijn32tab), ("math/bits.deBruijn64tab", Rows.laid_math_bits_deBruijn64tab), ("internal/strconv.uint64pow10", Rows.laid_internal_strconv_uint64pow10), ("unicode/utf8.acceptRanges", Rows.laid_unicode_utf8_acceptRanges), ("dialtone/address.classes", Rows.laid_dialtone_address_classes), ("unicode/utf8.first", Rows.laid_unicode_utf8_first)]
noncomputable def laidWorld (os : Os) : World :=
  { World.doorLaid Tryz.prog 400 os with heap := (World.doorLaid Tryz.prog 400 os).heap.modify 3 fun
      | .cells _ t frozen => .cells (Go.Pinned.utf8FirstZ.map fun (x : Nat) => Value.int .u8 (x : Int)).toArray t frozen
      | o => o }
theorem door_met_k (os : Os) (args : Array Value) : laidMetH Tryz.prog LDk ((laidWorld os).forCall (fun _ _ => 0) ⟨#[], args, []⟩).memory :=
  laidMetH_of_parts3 (fuel := 8) (laidMet_of_run' 8 (by kernel_rfl) (by kernel_rfl)) (by kernel_rfl) (by kernel_rfl)
theorem GM_of_shape {W : World} (h : W.ShapedOpen Tryz.prog) : GM W := by
  obtain ⟨m, hm⟩ := cell_of_shapedOpen_int (P := Tryz.prog) (g := 1) (t := 3) (zero := #[.int .i64 0]) h (of_decide_eq_true (by kernel_rfl)) (by kernel_rfl) rfl (by kernel_rfl) (by kernel_rfl) Tryz.underlying3
  exact ⟨block_lt_of_cell hm, m, hm⟩
theorem cS : Tryz.prog.cellsOf 9 = 1 := by kernel_rfl
theorem cI : Tryz.prog.cellsOf 3 = 1 := by kernel_rfl
theorem gCl : Tryz.prog.globalNamed "dialtone/address.classes" = some 0 := by kernel_rfl
theorem tCl : (Tryz.prog.globals[0]?).map (·.type) = some 124 := by kernel_rfl
theorem cA3 : Tryz.prog.cellsOf 124 = 3 := by kernel_rfl
def CLSL : List (List Int) := [[38, 61, 43, 36, 44, 59, 63, 47], [91, 93, 47, 58, 38, 43, 36], [91, 93, 47, 63, 58, 43, 36]]
theorem CLSV_eq : CLSV = CLSL.map fun s => Value.string (strOfNums s) := by kernel_rfl
theorem str_back {s : ByteArray} {x : List Int} (h : (strOfNums x).data.toList = s.data.toList) : s = strOfNums x := by
  have : (strOfNums x).data = s.data := Array.toList_inj.1 h
  cases s
  generalize strOfNums x = y at *
  cases y
  simp_all
theorem laidCl {H : Type} : (Rows.laid_dialtone_address_classes (H := H)) = .agg (CLSL.map fun s => .lit (.string (strOfNums s).data.toList)) := by kernel_rfl
theorem CLS_of_head {W : World} {rest : List (String × DataW Unit)} (h : laidMet Tryz.prog (("dialtone/address.classes", Rows.laid_dialtone_address_classes) :: rest) W) : CLS W := by
  obtain ⟨ps, ⟨g', t', cs, fuel, p, q, hg', ht', hvar, hd, _, _⟩, _⟩ := h
  obtain rfl := Option.some.inj (gCl.symm.trans hg')
  obtain rfl := Option.some.inj (tCl.symm.trans ht')
  rw [laidCl] at hd
  obtain ⟨xs, m, _, hx, hl, hlen, hf⟩ := DataW.trod_array Tryz.underlying124 hd
  rw [cA3] at hl
  have hxs : xs.map (·.1) = CLSL.map fun s => (DataW.lit (.string (strOfNums s).data.toList)) := by
    have := congrArg Prod.fst hx
    simpa using this.symm
  have key : ∀ (j : Nat) (v : Value), CLSV[j]? = some v → cs.toList[j]? = some v := fun j v hv => by
    have hj : j < 3 := (List.getElem?_eq_some_iff.1 hv).1
    have h1 := hf j hj
    rw [cS, Nat.mul_one] at h1
    rw [List.getElem?_eq_getElem (by rw [hlen]; exact hj)] at h1
    obtain ⟨s, hc, hy, _⟩ := DataW.trod_string Tryz.underlying9 h1
    have h2 : (xs.map (·.1))[j]? = some (DataW.lit (.string s.data.toList)) := by
      rw [List.getElem?_map, List.getElem?_eq_getElem (by rw [hlen]; exact hj), hy]; rfl
    rw [hxs, List.getElem?_map] at h2
    obtain ⟨x, hx1, hx2⟩ := Option.map_eq_some_iff.1 h2
    injection hx2 with hx3
    injection hx3 with hx4
    have h3 : cs.toList[j]? = some (.string s) := by
      have := congrArg (·[0]?) hc
      simpa [List.getElem?_take, List.getElem?_drop] using this
    rw [h3, str_back hx4]
    rw [CLSV_eq, List.getElem?_map, hx1] at hv
    exact hv
  have cell : ∀ (j : Nat) (v : Value), CLSV[j]? = some v → W.cell? ⟨0, j, none⟩ = some v := fun j v hv => by
    rw [World.var?_cell gCl hvar j]
    simpa using key j v hv
  exact ⟨block_lt_of_cell (cell 0 _ rfl), fun j v hv => by rw [Nat.zero_add]; exact cell j v hv⟩
theorem gPow : Tryz.prog.globalNamed "internal/strconv.uint64pow10" = some 2 := by kernel_rfl
theorem tPow : (Tryz.prog.globals[2]?).map (·.type) = some 194 := by kernel_rfl
theorem cU64 : Tryz.prog.cellsOf 183 = 1 := by kernel_rfl
theorem cA20 : Tryz.prog.cellsOf 194 = 20 := by kernel_rfl
theorem PT_of_met {W : World} {rest : List (String × DataW Unit)} (h : laidMet Tryz.prog (("internal/strconv.uint64pow10", Rows.laid_internal_strconv_uint64pow10) :: rest) W) : PT W := by
  have h1 : laidMet Tryz.prog (("internal/strconv.uint64pow10", Lib.tabData .u64 Lib.pow10Tab) :: rest) W := h
  exact Lib.tabIs_of_head gPow tPow Tryz.underlying194 Tryz.underlying183 cU64 cA20 h1
theorem PT_of_k {W : World} (h : laidMetH Tryz.prog LDk W) : PT W := by
  rw [MakeChecks.laidMetH_plain _ _ _ (by kernel_rfl)] at h
  exact PT_of_met (laidMet.tail (laidMet.tail h))
theorem CLS_of_k {W : World} (h : laidMetH Tryz.prog LDk W) : CLS W := by
  rw [MakeChecks.laidMetH_plain _ _ _ (by kernel_rfl)] at h
  exact CLS_of_head (laidMet.tail (laidMet.tail (laidMet.tail (laidMet.tail h))))
end Go.Proofs.YthfonniieaiocaaGreatDoor
