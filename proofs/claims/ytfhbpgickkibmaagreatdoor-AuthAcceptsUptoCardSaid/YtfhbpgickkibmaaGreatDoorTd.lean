/- The law AuthOnce. -/
import Derived.Test.YtfhbpgickkibmaaGreatDoorTc
import Derived.Test.YtfhbpgickkibmaaGreatDoorRf
namespace Go.Proofs.YtfhbpgickkibmaaGreatDoor
open Go.RowKit

def REs : ByteArray := ⟨#[114, 101, 97, 108, 109]⟩
def KEs : ByteArray := ⟨#[107, 101, 121]⟩
def Us : ByteArray := ⟨#[117]⟩
def Cs : ByteArray := ⟨#[99]⟩
def Ps : ByteArray := ⟨#[112]⟩
/-- A row of numbers of 32 bits. -/
def Ws (w : World) (B : Nat) (A : Option Addr) (xs : List Int) : Prop := 0 < xs.length → ∃ ad, A = some ad ∧ ad.block < B ∧ ∀ (j : Nat) x, xs[j]? = some x → w.cell? (ad.add j) = some (.int .u32 x)
theorem Ws.below {w w' : World} {B : Nat} {A : Option Addr} {xs : List Int} (h : Ws w B A xs) (hb : Below B w w') : Ws w' B A xs := fun hn => by
  obtain ⟨ad, e, h1, h2⟩ := h hn
  exact ⟨ad, e, h1, fun j x hx => (hb.cell (by rw [add_block]; exact h1)).trans (h2 j x hx)⟩
theorem valid_one {re ke v : ByteArray} {life iss a k : Int} (h1 : clean (byteL re) = true) (h2 : clean (byteL ke) = true) (h3 : 1 ≤ life) (h4 : life ≤ 1099511627776) (h5 : 0 ≤ iss) (h6 : iss ≤ 2147483647) (h7 : 0 ≤ a) (h8 : a ≤ 1099511627776) (h9 : 0 ≤ k) (h10 : k ≤ 4294967295) :
    validG (byteL re) (byteL ke) life iss [⟨v, a, k⟩] = true := by
  unfold validG
  rw [h1, h2]
  simp [ncOk, h3, h4, h5, h6, h7, h8, h9, h10]
theorem badV_one {re ke v : ByteArray} {life iss a k now : Int} (h : validG (byteL re) (byteL ke) life iss [⟨v, a, k⟩] = true) (h1 : 0 ≤ now) (h2 : now ≤ 1099511627776) : badV re ke life iss 0 now [⟨v, a, k⟩] = false := by
  unfold badV
  rw [h]
  simp
  omega
theorem first_one {re ke : ByteArray} {life : Int} (h1 : clean (byteL re) = true) (h2 : clean (byteL ke) = true) (h3 : 1 ≤ life) (h4 : life ≤ 1099511627776) (s1 : re.size ≤ 200) (s2 : ke.size ≤ 200) : firL re ke life = ⟨re, ke, life, 1, [⟨txtI ke 0 1000, 1000, 0⟩], re, txtI ke 0 1000, true, 0⟩ := by
  rw [firL_ok (by omega), issL_ok]
  · rfl
  · unfold badI validG
    rw [h1, h2]
    simp [h3, h4]
theorem findB_one {v : ByteArray} {a k : Int} : findB [⟨v, a, k⟩] v = some 0 := findBk_yes rfl (by unfold hitN; simp)
/-- Verify, where the guard keeps one nonce and the request answers it. -/
theorem ver_one {re ke v : ByteArray} {U cs pw : List Int} {life iss a k0 k now : Int} {g : Bool} {bs bs2 : List Int} {us : List (ByteArray × ByteArray)} {j : Nat} {s : ByteArray} (h : XOk U (byteL re) (byteL v) cs k)
    (hb : badV re ke life iss 0 now [⟨v, a, k0⟩] = false) (hf : findK us (strOfNums U) = some j) (hs : (us.getD j (⟨#[]⟩, ⟨#[]⟩)).2 = s) (hr : respL (byteL s) (byteL v) k cs g (byteL BOBs) (byteL INVs) bs2 = XP U (byteL re) (byteL v) cs pw k g bs) :
    verL re ke life iss 0 now [⟨v, a, k0⟩] us (TwoH (XC U (byteL re) (byteL v) cs pw k g bs)) INVs BOBs bs2 =
      if life < now - a then ⟨re, ke, life, iss, [⟨v, a, k0⟩], ⟨#[]⟩, 13⟩ else if k ≤ k0 then ⟨re, ke, life, iss, [⟨v, a, k0⟩], ⟨#[]⟩, 7⟩ else ⟨re, ke, life, iss, [⟨v, a, k⟩], strOfNums U, 0⟩ := by
  have hP := h.pres pw g bs
  have hW : wrongV us BOBs INVs bs2 (XC U (byteL re) (byteL v) cs pw k g bs) = false := by rw [h.wrong pw g bs bs2 hf hs, hr]; simp
  have hn : findB [⟨v, a, k0⟩] (strOfNums (XC U (byteL re) (byteL v) cs pw k g bs).n) = some 0 := by
    rw [show strOfNums (XC U (byteL re) (byteL v) cs pw k g bs).n = v from str_byteL v]; exact findB_one
  split
  · rename_i h1
    exact verL_nonce hb hP hW (nonce_old hn rfl h1) (by decide)
  · rename_i h1
    split
    · rename_i h2
      exact verL_nonce hb hP hW (nonce_used hn rfl h1 h2) (by decide)
    · rename_i h2
      exact verL_yes hb hP hW (nonce_new hn rfl h1 h2)
end Go.Proofs.YtfhbpgickkibmaaGreatDoor
