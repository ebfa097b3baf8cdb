/- Contract: the reference's Fire. -/
import Derived.Test.YtcnkjgjimcddiaaGreatDoorEg
namespace Go.Proofs.YtcnkjgjimcddiaaGreatDoor
open Go.RowKit

end Go.Proofs.YtcnkjgjimcddiaaGreatDoor
