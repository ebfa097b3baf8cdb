/- The law RefreshOne. -/
import Derived.Test.YtcnkjgjimcddiaaGreatDoorEs
namespace Go.Proofs.YtcnkjgjimcddiaaGreatDoor
open Go.RowKit

end Go.Proofs.YtcnkjgjimcddiaaGreatDoor
