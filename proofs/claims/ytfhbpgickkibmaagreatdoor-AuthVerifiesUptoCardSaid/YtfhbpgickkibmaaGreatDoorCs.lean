/- Contracts: the reference 02's find and Get. -/
import Derived.Test.YtfhbpgickkibmaaGreatDoorCr
import Derived.Test.YtfhbpgickkibmaaGreatDoorMd
namespace Go.Proofs.YtfhbpgickkibmaaGreatDoor
open Go.RowKit

/-- A slice that reads as these cells. -/
def Rds (w : World) (B : Nat) (A : Option Addr) (cs : List Value) : Prop := 0 < cs.length → ∃ b o, A = some ⟨b, o, none⟩ ∧ b < B ∧ ∀ j u, cs[j]? = some u → w.cell? ⟨b, o + j, none⟩ = some u
theorem Rds.keep {w w' : World} {B : Nat} {A : Option Addr} {cs : List Value} (h : Rds w B A cs) (hk : ∀ p : Addr, p.block < B → w'.cell? p = w.cell? p) : Rds w' B A cs := fun hn => by
  obtain ⟨b, o, e, hb, hc⟩ := h hn
  exact ⟨b, o, e, hb, fun j u hu => (hk ⟨b, o + j, none⟩ hb).trans (hc j u hu)⟩
theorem Rds.below {w w' : World} {B : Nat} {A : Option Addr} {cs : List Value} (h : Rds w B A cs) (hb : Below B w w') : Rds w' B A cs := h.keep fun _ hp => hb.cell hp
theorem Rds.up {w : World} {B B' : Nat} {A : Option Addr} {cs : List Value} (h : Rds w B A cs) (hB : B ≤ B') : Rds w B' A cs := fun hn => by
  obtain ⟨b, o, e, hb, hc⟩ := h hn
  exact ⟨b, o, e, Nat.lt_of_lt_of_le hb hB, hc⟩
def prmBy (p : Prm) : Prop := By p.n ∧ By p.v ∧ p.n.length ≤ 4000000 ∧ p.v.length ≤ 4000000
def findP (ps : List Prm) (nm : List Int) : Option Nat := ps.findIdx? fun p => lowS p.n == lowS nm
def findV : Option Nat → Int
  | none => -1
  | some i => i
theorem prms_at {ps : List Prm} {k : Nat} {p : Prm} (h : ps[k]? = some p) : (prms ps)[k * 3]? = some (.string (strOfNums p.n)) ∧ (prms ps)[k * 3 + 1]? = some (.string (strOfNums p.v)) ∧ (prms ps)[k * 3 + 2]? = some (.bool p.h) :=
  ⟨flat_at prmC 3 (fun _ => rfl) ps k 0 p h (by omega), flat_at prmC 3 (fun _ => rfl) ps k 1 p h (by omega), flat_at prmC 3 (fun _ => rfl) ps k 2 p h (by omega)⟩
theorem toList_beq {a b : List Int} (ha : By a) (hb : By b) : ((strOfNums a).toList == (strOfNums b).toList) = (a == b) := by
  rw [Bool.eq_iff_iff, beq_iff_eq, beq_iff_eq, toList_inj, num_inj ha hb]
theorem find_spec (ps : List Prm) (nm : List Int) : (findP ps nm = none ∧ ps.find? (fun p => lowS p.n == lowS nm) = none) ∨ ∃ i p, findP ps nm = some i ∧ ps[i]? = some p ∧ ps.find? (fun p => lowS p.n == lowS nm) = some p := by
  induction ps with
  | nil => exact .inl ⟨rfl, rfl⟩
  | cons q ps ih =>
    unfold findP at ih ⊢
    rw [List.findIdx?_cons, List.find?_cons]
    cases hq : (lowS q.n == lowS nm) with
    | true => exact .inr ⟨0, q, by simp, rfl, rfl⟩
    | false =>
      rcases ih with ⟨h1, h2⟩ | ⟨i, p, h1, h2, h3⟩
      · exact .inl ⟨by simp [h1], h2⟩
      · exact .inr ⟨i + 1, p, by simp [h1], h2, h3⟩
theorem findP_none {ps : List Prm} {nm : List Int} (h : ∀ (j : Nat) p, j < ps.length → ps[j]? = some p → (lowS p.n == lowS nm) = false) : findP ps nm = none := by
  unfold findP
  rw [List.findIdx?_eq_none_iff]
  intro p hp
  obtain ⟨j, hj, rfl⟩ := List.getElem_of_mem hp
  exact h j _ hj (List.getElem?_eq_getElem hj)
theorem findP_some {ps : List Prm} {nm : List Int} {k : Nat} {p : Prm} (h : ∀ (j : Nat) p, j < k → ps[j]? = some p → (lowS p.n == lowS nm) = false) (hk : ps[k]? = some p) (hp : (lowS p.n == lowS nm) = true) : findP ps nm = some k := by
  unfold findP
  obtain ⟨hl, rfl⟩ := List.getElem?_eq_some_iff.1 hk
  rw [List.findIdx?_eq_some_iff_getElem]
  exact ⟨hl, hp, fun j hj => by rw [h j _ hj (List.getElem?_eq_getElem (by omega))]; decide⟩
theorem num_size (l : List Int) : (strOfNums l).size = l.length := strOfNums_size l
set_option maxRecDepth 100000 in
theorem find_any (A : Option Addr) (n c : Nat) (ps : List Prm) (nm : ByteArray) (w : World) (hA : Rds w w.heap.size A (prms ps)) (hn : ps.length = n) (hP : ∀ p ∈ ps, prmBy p) (hN : n ≤ 16000000) (hs : nm.size ≤ 4000000) :
    Calls Tryz.prog 112 #[.slice A n c, .string nm] w fun e w' => e = .returned (.int .i64 (findV (findP ps (byteL nm)))) ∧ Below w.heap.size w w' := by
  have HA := Lib.hid hA; have HN := Lib.hid hn; have HP := Lib.hid hP
  clear hA hn hP
  go_enter Tryz.func112, Tryz.ntmps112
  go_wp2_with fail
  go_loopw [5] (fun v wr => ∃ k : Nat, k ≤ n ∧ v = .int .i64 k ∧ Hid (Below w.heap.size w wr ∧ ∀ (j : Nat) p, j < k → ps[j]? = some p → (lowS p.n == lowS (byteL nm)) = false)) (fun v _ => n - (intOf v).toNat)
  case atStart => exact ⟨0, Nat.zero_le _, rfl, Lib.hid ⟨Below.refl _ _, fun j p hj => absurd hj (by omega)⟩⟩
  case round =>
    obtain ⟨k, hk, rfl, H⟩ := hrel
    by_cases hlt : k < n
    · obtain ⟨p, hp⟩ : ∃ p, ps[k]? = some p := ⟨_, List.getElem?_eq_getElem (by rw [HN.out]; exact hlt)⟩
      obtain ⟨ab, ao, rfl, hab, hac⟩ := HA.out (by rw [prms_len, HN.out]; omega)
      have hpb := HP.out p (List.mem_of_getElem? hp)
      have hcell : wr.cell? ⟨ab, ao + k * 3, none⟩ = some (.string (strOfNums p.n)) := (H.out.1.cell (p := ⟨ab, ao + k * 3, none⟩) hab).trans (hac _ _ (prms_at hp).1)
      have hd : decide (k < n) = true := by simp; omega
      clear hac hab
      go_wp2_with fail
      refine (reflower_any (strOfNums p.n) _ (by rw [num_size]; exact hpb.2.2.1)).mono ?_
      rintro e w1 ⟨rfl, hb1⟩
      have B1 := Lib.hid (bthen H.out.1 hb1); clear hb1
      rw [byteL_str hpb.1]
      go_wp2_with fail
      refine (reflower_any nm _ hs).mono ?_
      rintro e w2 ⟨rfl, hb2⟩
      have B2 := Lib.hid (bthen B1.out hb2); clear hb2 B1
      have BX := lowS_by hpb.1
      have BY := lowS_by (byteL_by nm)
      have TB := toList_beq BX BY
      have F1 := Lib.hid (fun h => findP_some (nm := byteL nm) (k := k) (p := p) (fun j p hj hpj => H.out.2 j p hj hpj) hp h)
      have NX := Lib.hid (show (lowS p.n == lowS (byteL nm)) = false → ∀ (j : Nat) q, j < k + 1 → ps[j]? = some q → (lowS q.n == lowS (byteL nm)) = false from fun h j q hj hq => by
        rcases (show j < k ∨ j = k by omega) with h1 | rfl
        · exact H.out.2 j q h1 hq
        · rw [hp] at hq
          cases hq
          exact h)
      clear BX BY hpb hp
      generalize hx : lowS p.n = x at TB F1 NX
      generalize hy : lowS (byteL nm) = y at TB F1
      have HY := Lib.hid hy
      clear hx hy
      cases he : (x == y) with
      | true =>
        rw [he] at TB
        have F2 := Lib.hid (F1.out he)
        clear he
        go_wp2_with fail
        go_ret
        exact ⟨by rw [F2.out]; rfl, B2.out⟩
      | false =>
        rw [he] at TB
        have N2 := Lib.hid (NX.out (by rw [HY.out]; exact he))
        clear he
        go_wp2_with fail
        go_roundw
        case rel => exact ⟨k + 1, by omega, by go_num, Lib.hid ⟨B2.out, N2.out⟩⟩
        case measure => simp [intOf]; omega
    · obtain rfl : k = n := by omega
      have F2 := Lib.hid (findP_none (ps := ps) (nm := byteL nm) (fun j p hj hp => H.out.2 j p (by rw [HN.out] at hj; exact hj) hp))
      go_wp2_with fail
      go_ret
      exact ⟨by rw [F2.out]; rfl, H.out.1⟩
def getP (ps : List Prm) (nm : List Int) : Option (List Int) := (ps.find? fun p => lowS p.n == lowS nm).map (·.v)
def getV : Option (List Int) → Value
  | none => .tuple #[.string ⟨#[]⟩, .bool false]
  | some v => .tuple #[.string (strOfNums v), .bool true]
set_option maxRecDepth 100000 in
theorem get_any (A : Option Addr) (n c : Nat) (ps : List Prm) (nm : ByteArray) (w : World) (hA : Rds w w.heap.size A (prms ps)) (hn : ps.length = n) (hP : ∀ p ∈ ps, prmBy p) (hN : n ≤ 16000000) (hs : nm.size ≤ 4000000) :
    Calls Tryz.prog 83 #[.slice A n c, .string nm] w fun e w' => e = .returned (getV (getP ps (byteL nm))) ∧ Below w.heap.size w w' := by
  have HA := Lib.hid hA; have HN := Lib.hid hn; have HP := Lib.hid hP
  clear hA hn hP
  go_enter Tryz.func83, Tryz.ntmps83
  go_wp2_with fail
  refine (find_any A n c ps nm _ HA.out HN.out HP.out hN hs).mono ?_
  rintro e w1 ⟨rfl, hb1⟩
  have B1 := Lib.hid hb1
  have GE := Lib.hid (show getP ps (byteL nm) = (ps.find? fun p => lowS p.n == lowS (byteL nm)).map (·.v) from rfl)
  rcases find_spec ps (byteL nm) with ⟨h1, h2⟩ | ⟨i, p, h1, h2, h3⟩
  · rw [h1, show findV none = -1 from rfl]
    have G1 := Lib.hid (show getP ps (byteL nm) = none by rw [GE.out, h2]; rfl)
    clear h1 h2 hb1
    go_wp2_with fail
    go_ret2
    exact ⟨by rw [G1.out]; rfl, B1.out⟩
  · rw [h1, show findV (some i) = (i : Int) from rfl]
    have G1 := Lib.hid (show getP ps (byteL nm) = some p.v by rw [GE.out, h3]; rfl)
    have hi : i < n := by rw [← HN.out]; exact (List.getElem?_eq_some_iff.1 h2).1
    obtain ⟨ab, ao, rfl, hab, hac⟩ := HA.out (by rw [prms_len, HN.out]; omega)
    have hcell : w1.cell? ⟨ab, ao + i * 3 + 1, none⟩ = some (.string (strOfNums p.v)) := (hb1.cell (p := ⟨ab, ao + i * 3 + 1, none⟩) hab).trans (hac _ _ (prms_at h2).2.1)
    clear h1 h2 h3 hb1 hab hac
    go_wp2_with fail
    go_ret2
    exact ⟨by rw [G1.out]; rfl, B1.out⟩
end Go.Proofs.YtfhbpgickkibmaaGreatDoor
