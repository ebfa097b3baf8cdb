/- Plain words: the fields as parameters; what all fields hold. -/
import Derived.Test.YtcnkjgjimcddiaaGreatDoorPe
import Derived.Test.YtcnkjgjimcddiaaGreatDoorMc
namespace Go.Proofs.YtcnkjgjimcddiaaGreatDoor
open Go.RowKit

def prmOf (q : List Int × List Int) : Prm := ⟨q.1, q.2, true⟩
end Go.Proofs.YtcnkjgjimcddiaaGreatDoor
