/- The law AuthVerifies, from Verify's contract. -/
import Derived.Test.YtfhbpgickkibmaaGreatDoorRd
import Derived.Test.YtfhbpgickkibmaaGreatDoorNg
import Derived.Test.YtfhbpgickkibmaaGreatDoorDg
namespace Go.Proofs.YtfhbpgickkibmaaGreatDoor
open Go.RowKit

/-- auth's Verify answers what the plain law says. -/
def VerifyHolds : Prop := ∀ (re ke ms uri rsn : ByteArray) (life iss code now : Int) (Ea U A B : Option Addr) (en ec un uc n c m d : Nat) (l : List Nce) (us hs : List (ByteArray × ByteArray)) (bs : List Int) (w : World)
    (hE : Rds w w.heap.size Ea (ncs l)) (hen : l.length = en) (henN : en ≤ 2000000) (hU : Rds w w.heap.size U (hds us)) (hun : us.length = un) (hunN : un ≤ 16000000) (hus : ∀ h ∈ us, h.2.size ≤ 4000000)
    (hA : Rds w w.heap.size A (hds hs)) (hn : hs.length = n) (hN : n ≤ 4000000) (hl : ∀ h ∈ hs, h.1.size ≤ 4000000 ∧ h.2.size ≤ 4000000) (hb : By bs) (hm : bs.length = m) (hM : m ≤ 16000000) (hB : Bs w w.heap.size B bs)
    (s1 : re.size ≤ 4000000) (s2 : ke.size ≤ 4000000) (s7 : ms.size ≤ 4000000) (s8 : uri.size ≤ 4000000), (Ea = none → en = 0 ∧ ec = 0) → KC w → SC w → Calls Tryz.prog 25 #[.agg #[.string re, .string ke, .int .i64 life, .int .i64 iss, .slice Ea en ec], .slice U un uc, .agg #[.string ms, .string uri, .int .i64 code, .string rsn, .slice A n c, .slice B m d], .int .i64 now] w (VerP (verL re ke life iss code now l us hs ms uri bs) w)
section
variable {w : World} {b : Nat} {T : TypeId} {x0 x1 x2 x3 x4 y0 y1 : Value}
end
end Go.Proofs.YtfhbpgickkibmaaGreatDoor
