/- Contracts: the reference 02's find and Get. -/
import Derived.Test.YtcnkjgjimcddiaaGreatDoorCr
import Derived.Test.YtcnkjgjimcddiaaGreatDoorMd
namespace Go.Proofs.YtcnkjgjimcddiaaGreatDoor
open Go.RowKit

/-- A slice that reads as these cells. -/
def Rds (w : World) (B : Nat) (A : Option Addr) (cs : List Value) : Prop := 0 < cs.length → ∃ b o, A = some ⟨b, o, none⟩ ∧ b < B ∧ ∀ j u, cs[j]? = some u → w.cell? ⟨b, o + j, none⟩ = some u
theorem Rds.keep {w w' : World} {B : Nat} {A : Option Addr} {cs : List Value} (h : Rds w B A cs) (hk : ∀ p : Addr, p.block < B → w'.cell? p = w.cell? p) : Rds w' B A cs := fun hn => by
  obtain ⟨b, o, e, hb, hc⟩ := h hn
  exact ⟨b, o, e, hb, fun j u hu => (hk ⟨b, o + j, none⟩ hb).trans (hc j u hu)⟩
theorem Rds.below {w w' : World} {B : Nat} {A : Option Addr} {cs : List Value} (h : Rds w B A cs) (hb : Below B w w') : Rds w' B A cs := h.keep fun _ hp => hb.cell hp
theorem Rds.up {w : World} {B B' : Nat} {A : Option Addr} {cs : List Value} (h : Rds w B A cs) (hB : B ≤ B') : Rds w B' A cs := fun hn => by
  obtain ⟨b, o, e, hb, hc⟩ := h hn
  exact ⟨b, o, e, Nat.lt_of_lt_of_le hb hB, hc⟩
def prmBy (p : Prm) : Prop := By p.n ∧ By p.v ∧ p.n.length ≤ 4000000 ∧ p.v.length ≤ 4000000
def findP (ps : List Prm) (nm : List Int) : Option Nat := ps.findIdx? fun p => lowS p.n == lowS nm
def findV : Option Nat → Int
  | none => -1
  | some i => i
theorem toList_beq {a b : List Int} (ha : By a) (hb : By b) : ((strOfNums a).toList == (strOfNums b).toList) = (a == b) := by
  rw [Bool.eq_iff_iff, beq_iff_eq, beq_iff_eq, toList_inj, num_inj ha hb]
theorem num_size (l : List Int) : (strOfNums l).size = l.length := strOfNums_size l
def getP (ps : List Prm) (nm : List Int) : Option (List Int) := (ps.find? fun p => lowS p.n == lowS nm).map (·.v)
def getV : Option (List Int) → Value
  | none => .tuple #[.string ⟨#[]⟩, .bool false]
  | some v => .tuple #[.string (strOfNums v), .bool true]
end Go.Proofs.YtcnkjgjimcddiaaGreatDoor
