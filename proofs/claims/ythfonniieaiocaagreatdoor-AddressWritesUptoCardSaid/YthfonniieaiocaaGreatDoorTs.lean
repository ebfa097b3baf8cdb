/- Contract: address.Get; the reference's Get on these parameters. And what stands behind it. -/
import Derived.Test.YthfonniieaiocaaGreatDoorTi
import Derived.Test.YthfonniieaiocaaGreatDoorUh
import Derived.Test.YthfonniieaiocaaGreatDoorXf
import Derived.Test.YthfonniieaiocaaGreatDoorFe
import Derived.Test.YthfonniieaiocaaGreatDoorXv
import Derived.Test.YthfonniieaiocaaGreatDoorXz
import Derived.Test.YthfonniieaiocaaGreatDoorLl
import Derived.Test.YthfonniieaiocaaGreatDoorYa
import Derived.Test.YthfonniieaiocaaGreatDoorTr
set_option linter.unusedVariables false
set_option linter.unusedSimpArgs false
namespace Go.Proofs.YthfonniieaiocaaGreatDoor
open Go.RowKit

def prT : Option (List Int) → List Int
  | some s => s
  | none => []
def prK : Option (List Int) → Int
  | some _ => 0
  | none => 2
theorem pri_two {w w' : World} {R : Option (List Int)} {e : Ending} (h : PriP w R e w') : e = .returned (.tuple #[.string (strOfNums (prT R)), .int .u8 (prK R)]) ∧ Below w.heap.size w w' := by
  cases R with
  | none => exact ⟨h.2, h.1⟩
  | some s => exact ⟨h.2, h.1⟩

set_option maxRecDepth 100000 in
set_option maxHeartbeats 8000000 in
theorem writes_any (a : Adr) (A1 A2 A3 : Option Addr) (c1 c2 c3 : Nat) (w : World) (H : AdG w a A1 A2 A3 c1 c2 c3) (hC : CLS w) (hG : GM w) (hP : PT w) :
    Calls Tryz.prog 13 #[adV9 a A1 A2 A3 c1 c2 c3] w fun e w' => e = .returned (.bool true) ∧ Below w.heap.size w w' := by
  have HU := kd (fun w' (hb : Below w.heap.size w w') => H.step hb)
  have HC := kd (fun w' (hb : Below w.heap.size w w') => hC.below hb); have HG := kd (fun w' (hb : Below w.heap.size w w') => hG.below hb); have HP := kd (fun w' (hb : Below w.heap.size w w') => hP.below hb)
  have AW := kd (fun w' (hb : Below w.heap.size w w') => awake_any w' (hC.below hb) (hG.below hb) (hP.below hb))
  have PA := kd (fun (h40 : a.ps.length ≤ 40) w' (hb : Below w.heap.size w w') => padr_any a A1 A2 A3 c1 c2 c3 w' (HU.out w' hb) h40 (HC.out w' hb) (HG.out w' hb) (HP.out w' hb))
  have RA := kd (fun (h40 : a.ps.length ≤ 40) w' (hb : Below w.heap.size w w') => rpadr_any a A1 A2 A3 c1 c2 c3 w' (HU.out w' hb) h40)
  unfold adV9 at PA RA
  generalize prAdr a = R at *
  have RP := kd (Row.new w 38 [.string (strOfNums a.ds), .string (strOfNums a.u.sc), .string (strOfNums a.u.us), .string (strOfNums a.u.ho), .int .i64 a.u.po, .slice A1 a.u.ps.length c1, .slice A2 a.u.hs.length c2, .slice A3 a.ps.length c3])
  have BB := kd ((Below.refl w.heap.size w).alloc (Nat.le_refl _) (.cells ([.string (strOfNums a.ds), .string (strOfNums a.u.sc), .string (strOfNums a.u.us), .string (strOfNums a.u.ho), .int .i64 a.u.po, .slice A1 a.u.ps.length c1, .slice A2 a.u.hs.length c2, .slice A3 a.ps.length c3] : List Value).toArray 38))
  have N1 := H.r.a.l1; have N2 := H.r.a.l2; have N3 := H.n
  obtain ⟨PO, hPO⟩ : ∃ PO, (fun (e : Ending) (w' : World) => e = .returned (.bool true) ∧ Below w.heap.size w w') = PO := ⟨_, rfl⟩
  have FIN := kd (show ∀ w', Below w.heap.size w w' → PO (.returned (.bool true)) w' from fun w' h => by rw [← hPO]; exact ⟨rfl, h⟩)
  rw [hPO]
  clear H hC hG hP hPO 
  unfold adV9
  go_enter Tryz.func13, Tryz.ntmps13
  go_upto_region 1 with (fail)
  generalize w.alloc (.cells #[.string (strOfNums a.ds), .string (strOfNums a.u.sc), .string (strOfNums a.u.us), .string (strOfNums a.u.ho), .int .i64 a.u.po, .slice A1 a.u.ps.length c1, .slice A2 a.u.hs.length c2, .slice A3 a.ps.length c3] 38) = w1 at *
  obtain ⟨g1, hg⟩ : ∃ b, w.heap.size = b := ⟨_, rfl⟩
  rw [hg] at RP ⊢
  clear hg
  have k5 : w1.cell? ⟨g1, 5, none⟩ = some (.slice A1 a.u.ps.length c1) := RP.out.cell 5
  have k6 : w1.cell? ⟨g1, 6, none⟩ = some (.slice A2 a.u.hs.length c2) := RP.out.cell 6
  have k7 : w1.cell? ⟨g1, 7, none⟩ = some (.slice A3 a.ps.length c3) := RP.out.cell 7
  by_cases h40 : 40 < a.u.ps.length + a.u.hs.length + a.ps.length
  · have d40' : (40 : Int) < (a.u.ps.length : Int) + (a.u.hs.length : Int) + (a.ps.length : Int) := by omega
    go_wp2_with fail
    refine (AW.out _ BB.out).mono ?_
    rintro _ wz ⟨rfl, hbz⟩
    have BZ := kd (bthen BB.out hbz)
    go_wp2_with fail
    first | exact FIN.out _ BZ.out | (go_ret; exact FIN.out _ BZ.out)
  have d40' : ¬ (40 : Int) < (a.u.ps.length : Int) + (a.u.hs.length : Int) + (a.ps.length : Int) := by omega
  have h40' : a.ps.length ≤ 40 := by omega
  go_upto_region 3 with (fail)
  clear d40' h40 k5 k6 k7 N1 N2 N3 HU HC HG HP
  go_wp2_with (with_reducible refine wpList_loadR rfl 38 (.tmp 1) rfl RP.out rfl Tryz.underlying38 rfl (size8 _ _ _ _ _ _ _ _) ?_)
  refine (PA.out h40' _ BB.out).mono ?_
  intro e w2 hp
  obtain ⟨rfl, hb⟩ := pri_two hp
  have B2 := kd (bthen BB.out hb)
  replace RP := kd (RP.out.below hb)
  clear hp hb PA BB
  go_wp2_with (with_reducible refine wpList_loadR rfl 38 (.tmp 1) rfl RP.out rfl Tryz.underlying38 rfl (size8 _ _ _ _ _ _ _ _) ?_)
  refine (RA.out h40' _ B2.out).mono ?_
  intro e w3 hp
  obtain ⟨rfl, hb⟩ := pri_two hp
  have B3 := kd (bthen B2.out hb)
  clear hp hb RA B2 RP h40'
  generalize strOfNums (prT R) = tx at *
  generalize prK R = tk at *
  have es : (tx.toList == tx.toList) = true := by simp
  have et : (tk == tk) = true := by simp
  go_wp2_with fail
  refine (AW.out _ B3.out).mono ?_
  rintro _ wz ⟨rfl, hbz⟩
  have BZ := kd (bthen B3.out hbz)
  go_wp2_with fail
  first | exact FIN.out _ BZ.out | (go_ret; exact FIN.out _ BZ.out)
end Go.Proofs.YthfonniieaiocaaGreatDoor
