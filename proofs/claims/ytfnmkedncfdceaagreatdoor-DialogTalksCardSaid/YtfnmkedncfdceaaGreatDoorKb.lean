/- Plain law: what ends a dialog (DialogEnds), and the examples of DialogKnown. -/
import Derived.Test.YtfnmkedncfdceaaGreatDoorKa
set_option linter.unusedVariables false
set_option linter.unusedSimpArgs false
namespace Go.Proofs.YtfnmkedncfdceaaGreatDoor
open Go.RowKit

def INFOT:List Int:=[73,78,70,79]
def EH (m:List Int):List Hd:=[hdL [86,105,97] [83,73,80,47,50,46,48,47,85,68,80,32,97,46,101,120,97,109,112,108,101,59,98,114,97,110,99,104,61,122,57,104,71,52,98,75,49],
 hdL [70,114,111,109] [60,115,105,112,58,97,64,97,46,101,120,97,109,112,108,101,62,59,116,97,103,61,120],
 hdL [84,111] [60,115,105,112,58,98,64,98,46,101,120,97,109,112,108,101,62,59,116,97,103,61,121],
 hdL [67,97,108,108,45,73,68] [99,49],
 hdL [67,83,101,113] (56::32::m),
 hdL [67,111,110,116,97,99,116] [60,115,105,112,58,98,64,53,46,54,46,55,46,56,62]]
def M4 (m:List Int):Prop:=m=BYET∨m=INVT∨m=INFOT∨m=UPDT
end Go.Proofs.YtfnmkedncfdceaaGreatDoor
