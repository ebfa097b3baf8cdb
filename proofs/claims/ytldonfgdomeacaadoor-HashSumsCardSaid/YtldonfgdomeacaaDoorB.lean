/- The plain hash of a block. -/
import Derived.Test.YtldonfgdomeacaaDoorA
namespace Go.Proofs.YtldonfgdomeacaaDoor
open Go.RowKit

def AD (a b : Int) : Int := (a + b) % 4294967296
def AN (a b : Int) : Int := bits .and .u32 a b
def NOT (a : Int) : Int := bits .xor .u32 IntKind.u32.max a
def word (bs : List Int) (i : Nat) : Int := bs.getD (4 * i) 0 * 16777216 + bs.getD (4 * i + 1) 0 * 65536 + bs.getD (4 * i + 2) 0 * 256 + bs.getD (4 * i + 3) 0
def nextW (bs w : List Int) (i : Nat) : Int := if i < 16 then word bs i else AD (AD (AD (sm1 (w.getD (i - 2) 0)) (w.getD (i - 7) 0)) (sm0 (w.getD (i - 15) 0))) (w.getD (i - 16) 0)
def schedTo (bs : List Int) : Nat → List Int
  | 0 => []
  | i + 1 => schedTo bs i ++ [nextW bs (schedTo bs i) i]
structure St where
  a : Int
  b : Int
  c : Int
  d : Int
  e : Int
  f : Int
  g : Int
  h : Int
def tOf (k w : Int) (s : St) : Int := AD (AD (AD (AD s.h (la1 s.e)) (X (AN s.e s.f) (AN (NOT s.e) s.g))) k) w
def uOf (s : St) : Int := AD (la0 s.a) (X (X (AN s.a s.b) (AN s.a s.c)) (AN s.b s.c))
def rnd (k w : Int) (s : St) : St := ⟨AD (tOf k w s) (uOf s), s.a, s.b, s.c, AD s.d (tOf k w s), s.e, s.f, s.g⟩
def roundTo (ks ws : List Int) (s : St) : Nat → St
  | 0 => s
  | i + 1 => rnd (ks.getD i 0) (ws.getD i 0) (roundTo ks ws s i)
def Ks : List Int := [0x428a2f98, 0x71374491, 0xb5c0fbcf, 0xe9b5dba5, 0x3956c25b, 0x59f111f1, 0x923f82a4, 0xab1c5ed5, 0xd807aa98, 0x12835b01, 0x243185be, 0x550c7dc3, 0x72be5d74, 0x80deb1fe, 0x9bdc06a7, 0xc19bf174, 0xe49b69c1, 0xefbe4786, 0x0fc19dc6, 0x240ca1cc, 0x2de92c6f, 0x4a7484aa, 0x5cb0a9dc, 0x76f988da, 0x983e5152, 0xa831c66d, 0xb00327c8, 0xbf597fc7, 0xc6e00bf3, 0xd5a79147, 0x06ca6351, 0x14292967, 0x27b70a85, 0x2e1b2138, 0x4d2c6dfc, 0x53380d13, 0x650a7354, 0x766a0abb, 0x81c2c92e, 0x92722c85, 0xa2bfe8a1, 0xa81a664b, 0xc24b8b70, 0xc76c51a3, 0xd192e819, 0xd6990624, 0xf40e3585, 0x106aa070, 0x19a4c116, 0x1e376c08, 0x2748774c, 0x34b0bcb5, 0x391c0cb3, 0x4ed8aa4a, 0x5b9cca4f, 0x682e6ff3, 0x748f82ee, 0x78a5636f, 0x84c87814, 0x8cc70208, 0x90befffa, 0xa4506ceb, 0xbef9a3f7, 0xc67178f2]
def blockS (s : St) (bs : List Int) : St :=
  let r := roundTo Ks (schedTo bs 64) s 64
  ⟨AD s.a r.a, AD s.b r.b, AD s.c r.c, AD s.d r.d, AD s.e r.e, AD s.f r.f, AD s.g r.g, AD s.h r.h⟩
def H0 : St := ⟨0x6a09e667, 0xbb67ae85, 0x3c6ef372, 0xa54ff53a, 0x510e527f, 0x9b05688c, 0x1f83d9ab, 0x5be0cd19⟩
def abcBlock : List Int := [97, 98, 99, 128] ++ List.replicate 59 0 ++ [24]
theorem abc_is : (blockS H0 abcBlock).a = 0xba7816bf := by decide +kernel
end Go.Proofs.YtldonfgdomeacaaDoor
