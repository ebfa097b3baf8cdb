/- Contracts of the reference 01: Blank, Control, TokenChar, Blanks, TokenEnd, Token, Trim. -/
import Derived.Test.YtcnkjgjimcddiaaGreatDoorCc
import Derived.Test.YtcnkjgjimcddiaaGreatDoorPe
namespace Go.Proofs.YtcnkjgjimcddiaaGreatDoor
open Go.RowKit

def TOKS : List Int := [45, 46, 33, 37, 42, 95, 43, 39, 126]
end Go.Proofs.YtcnkjgjimcddiaaGreatDoor
