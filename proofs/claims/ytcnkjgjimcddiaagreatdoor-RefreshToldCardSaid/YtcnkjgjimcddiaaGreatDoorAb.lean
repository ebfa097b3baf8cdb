/- Plain: kinds of headers, lists, the headers of a name. -/
import Derived.Test.YtcnkjgjimcddiaaGreatDoorAa
namespace Go.Proofs.YtcnkjgjimcddiaaGreatDoor
open Go.RowKit

def KINDS : List (List Int × Int) := [
  ([70, 114, 111, 109], 1),
  ([84, 111], 1),
  ([67, 111, 110, 116, 97, 99, 116], 1),
  ([82, 111, 117, 116, 101], 1),
  ([82, 101, 99, 111, 114, 100, 45, 82, 111, 117, 116, 101], 1),
  ([80, 97, 116, 104], 1),
  ([83, 101, 114, 118, 105, 99, 101, 45, 82, 111, 117, 116, 101], 1),
  ([82, 101, 102, 101, 114, 45, 84, 111], 1),
  ([82, 101, 102, 101, 114, 114, 101, 100, 45, 66, 121], 1),
  ([82, 101, 112, 108, 121, 45, 84, 111], 1),
  ([86, 105, 97], 2),
  ([67, 83, 101, 113], 3),
  ([82, 65, 99, 107], 4),
  ([67, 111, 110, 116, 101, 110, 116, 45, 76, 101, 110, 103, 116, 104], 5),
  ([69, 120, 112, 105, 114, 101, 115], 5),
  ([77, 97, 120, 45, 70, 111, 114, 119, 97, 114, 100, 115], 5),
  ([77, 105, 110, 45, 69, 120, 112, 105, 114, 101, 115], 5),
  ([82, 83, 101, 113], 5),
  ([67, 111, 110, 116, 101, 110, 116, 45, 68, 105, 115, 112, 111, 115, 105, 116, 105, 111, 110], 6),
  ([67, 111, 110, 116, 101, 110, 116, 45, 84, 121, 112, 101], 6),
  ([69, 118, 101, 110, 116], 6),
  ([77, 105, 110, 45, 83, 69], 6),
  ([83, 101, 115, 115, 105, 111, 110, 45, 69, 120, 112, 105, 114, 101, 115], 6),
  ([83, 117, 98, 115, 99, 114, 105, 112, 116, 105, 111, 110, 45, 83, 116, 97, 116, 101], 6),
  ([65, 99, 99, 101, 112, 116], 7),
  ([65, 108, 108, 111, 119], 7),
  ([65, 108, 108, 111, 119, 45, 69, 118, 101, 110, 116, 115], 7),
  ([80, 114, 111, 120, 121, 45, 82, 101, 113, 117, 105, 114, 101], 7),
  ([82, 101, 113, 117, 105, 114, 101], 7),
  ([83, 117, 112, 112, 111, 114, 116, 101, 100], 7),
  ([85, 110, 115, 117, 112, 112, 111, 114, 116, 101, 100], 7)
]
def kindL (c : List Int) : Int := ((KINDS.find? fun q => q.1 == c).map (·.2)).getD 0
def MANY5 : List (List Int) := [[67, 111, 110, 116, 97, 99, 116], [80, 97, 116, 104], [82, 101, 99, 111, 114, 100, 45, 82, 111, 117, 116, 101], [82, 111, 117, 116, 101], [83, 101, 114, 118, 105, 99, 101, 45, 82, 111, 117, 116, 101]
]
def manyC (c : List Int) : Bool := MANY5.any (fun q => q == c) || (kindL c == 2 || kindL c == 7)
def manyN (nm : List Int) : Bool := match canonL nm with
  | some c => manyC c
  | none => false
/-- The elements of a list, or none. -/
def listE : List (List Int) → Bool := fun l => l.all fun p => !p.isEmpty
def listL (v : List Int) : Except Int (List (List Int)) :=
  if (splitL v 44).2.2 ≠ 0 then .error (splitL v 44).2.2
  else if ((splitL v 44).1.map (·.2)).all (fun p => !p.isEmpty) = true then .ok ((splitL v 44).1.map (·.2)) else .error 5
def elemsL (v : List Int) : List (List Int) := match listL v with
  | .ok l => l
  | .error _ => [v]
/-- A header: its name and its value. -/
def hitN (C : Option (List Int)) (h : ByteArray × ByteArray) : Bool := eqN (canonL (byteL h.1)) C
def getH (l : List (ByteArray × ByteArray)) (nm : List Int) : Option Nat := l.findIdx? (hitN (canonL nm))
def allH (l : List (ByteArray × ByteArray)) (nm : List Int) : List (List Int) := (l.filter (hitN (canonL nm))).flatMap fun h => if manyN nm = true then elemsL (byteL h.2) else [byteL h.2]
end Go.Proofs.YtcnkjgjimcddiaaGreatDoor
