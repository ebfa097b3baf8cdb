/- Plain words: what a challenge says; the names of its fields. Plain words: what a challenge prints as. Plain words: what credentials say. -/
import Derived.Test.YtcnkjgjimcddiaaGreatDoorPf
import Derived.Test.YtcnkjgjimcddiaaGreatDoorHb
namespace Go.Proofs.YtcnkjgjimcddiaaGreatDoor
open Go.RowKit

structure Ch where
  r : List Int
  n : List Int
  o : List Int
  i : Bool
  s : Bool
def chC (c : Ch) : List Value := [.string (strOfNums c.r), .string (strOfNums c.n), .string (strOfNums c.o), .bool c.i, .bool c.s]
def gotF (l : List (List Int × List Int)) (nm : List Int) : List Int := (getF l nm).getD []
def wordsL (xs : List Int) : List (List Int) := (cutL 44 xs).map trimB
def REALM : List Int := [114, 101, 97, 108, 109]
def NONCE : List Int := [110, 111, 110, 99, 101]
def OPAQUE : List Int := [111, 112, 97, 113, 117, 101]
def STALE : List Int := [115, 116, 97, 108, 101]
def ALG : List Int := [97, 108, 103, 111, 114, 105, 116, 104, 109]
def QOP : List Int := [113, 111, 112]
def SHA : List Int := [115, 104, 97, 45, 50, 53, 54]
def TRUE : List Int := [116, 114, 117, 101]
def AUTH : List Int := [97, 117, 116, 104]
def AUTHI : List Int := [97, 117, 116, 104, 45, 105, 110, 116]
def parseCh (xs : List Int) : Except Int Ch := match fieldsL xs with
  | .error k => .error k
  | .ok l => if (getF l REALM).isSome = false ∨ (getF l NONCE).isSome = false then .error 8
    else if lowS (gotF l ALG) ≠ SHA ∨ (wordsL (gotF l QOP)).contains AUTH = false then .error 15
    else .ok ⟨gotF l REALM, gotF l NONCE, gotF l OPAQUE, (wordsL (gotF l QOP)).contains AUTHI, lowS (gotF l STALE) == TRUE⟩
def chV : Except Int Ch → Value
  | .error k => .tuple #[.agg #[.string ⟨#[]⟩, .string ⟨#[]⟩, .string ⟨#[]⟩, .bool false, .bool false], .int .u8 k]
  | .ok c => .tuple #[.agg (chC c).toArray, .int .u8 0]
end Go.Proofs.YtcnkjgjimcddiaaGreatDoor
namespace Go.Proofs.YtcnkjgjimcddiaaGreatDoor
open Go.RowKit

def nq (nm xs : List Int) : List Int := nm ++ [61] ++ quoteL xs
def DIG : List Int := [68, 105, 103, 101, 115, 116, 32]
def ALGP : List Int := [97, 108, 103, 111, 114, 105, 116, 104, 109, 61, 83, 72, 65, 45, 50, 53, 54]
def STALEP : List Int := [115, 116, 97, 108, 101, 61, 116, 114, 117, 101]
def BOTH : List Int := [97, 117, 116, 104, 44, 97, 117, 116, 104, 45, 105, 110, 116]
def prV : Option (List (List Int)) → Value
  | none => .tuple #[.string ⟨#[]⟩, .int .u8 2]
  | some l => .tuple #[.string (strOfNums (DIG ++ joinL [44, 32] l)), .int .u8 0]
def addT (L : Option (List (List Int))) (nm xs : List Int) : Option (List (List Int)) := if clean xs = true then L.map (· ++ [nq nm xs]) else none
def addP (L : Option (List (List Int))) (p : List Int) : Option (List (List Int)) := L.map (· ++ [p])
def partsCh (c : Ch) : List (List Int) := [nq REALM c.r, nq NONCE c.n] ++ (if c.o = [] then [] else [nq OPAQUE c.o]) ++ [ALGP] ++ [nq QOP (if c.i = true then BOTH else AUTH)] ++ (if c.s = true then [STALEP] else [])
def printCh (c : Ch) : Option (List (List Int)) := if clean c.r = true ∧ clean c.n = true ∧ clean c.o = true then some (partsCh c) else none
/-- The writer's way. -/
def writeCh (c : Ch) : Option (List (List Int)) :=
  let L1 := addT (addT (some []) REALM c.r) NONCE c.n
  let L2 := if c.o = [] then L1 else addT L1 OPAQUE c.o
  let L3 := addP L2 ALGP
  let L4 := addT L3 QOP (if c.i = true then BOTH else AUTH)
  if c.s = true then addP L4 STALEP else L4
end Go.Proofs.YtcnkjgjimcddiaaGreatDoor
namespace Go.Proofs.YtcnkjgjimcddiaaGreatDoor
open Go.RowKit

structure Cr where
  u : List Int
  r : List Int
  n : List Int
  i : List Int
  p : List Int
  c : List Int
  o : List Int
  k : Int
  g : Bool
def USER : List Int := [117, 115, 101, 114, 110, 97, 109, 101]
def URI : List Int := [117, 114, 105]
def RESP : List Int := [114, 101, 115, 112, 111, 110, 115, 101]
def CNONCE : List Int := [99, 110, 111, 110, 99, 101]
def NC : List Int := [110, 99]
def NMS : List (List Int) := [USER, REALM, NONCE, URI, RESP, CNONCE, NC]
def missing (l : List (List Int × List Int)) : Bool := NMS.any fun m => !(getF l m).isSome
def numL (bs : List Int) : Int := bs.foldl (fun a b => a * 256 + b) 0
def parseCr (xs : List Int) : Except Int Cr := match fieldsL xs with
  | .error k => .error k
  | .ok l => if missing l = true then .error 8
    else if lowS (gotF l ALG) ≠ SHA then .error 15
    else if gotF l QOP ≠ AUTHI ∧ gotF l QOP ≠ AUTH then .error 15
    else if goodU (gotF l NC) = false ∨ (gotF l NC).length / 2 ≠ 4 then .error 5
    else .ok ⟨gotF l USER, gotF l REALM, gotF l NONCE, gotF l URI, gotF l RESP, gotF l CNONCE, gotF l OPAQUE, numL (unL (gotF l NC) 4), gotF l QOP == AUTHI⟩
def crC (c : Cr) : List Value := [.string (strOfNums c.u), .string (strOfNums c.r), .string (strOfNums c.n), .string (strOfNums c.i), .string (strOfNums c.p), .string (strOfNums c.c), .string (strOfNums c.o), .int .i64 c.k, .bool c.g]
def crV : Except Int Cr → Value
  | .error k => .tuple #[.agg #[.string ⟨#[]⟩, .string ⟨#[]⟩, .string ⟨#[]⟩, .string ⟨#[]⟩, .string ⟨#[]⟩, .string ⟨#[]⟩, .string ⟨#[]⟩, .int .i64 0, .bool false], .int .u8 k]
  | .ok c => .tuple #[.agg (crC c).toArray, .int .u8 0]
end Go.Proofs.YtcnkjgjimcddiaaGreatDoor
