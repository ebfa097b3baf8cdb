/- Contracts: message's named, the search of the first header of a name, Get. -/
import Derived.Test.YtcnkjgjimcddiaaGreatDoorAb
import Derived.Test.YtcnkjgjimcddiaaGreatDoorNb
import Derived.Test.YtcnkjgjimcddiaaGreatDoorQd
namespace Go.Proofs.YtcnkjgjimcddiaaGreatDoor
open Go.RowKit

def hdC (h : ByteArray × ByteArray) : List Value := [.string h.1, .string h.2]
def hds (l : List (ByteArray × ByteArray)) : List Value := l.flatMap hdC
theorem hds_snoc (l : List (ByteArray × ByteArray)) (h : ByteArray × ByteArray) : hds (l ++ [h]) = hds l ++ hdC h := by simp [hds]
theorem hds_len (l : List (ByteArray × ByteArray)) : (hds l).length = l.length * 2 := by
  unfold hds
  rw [List.length_flatMap, show (l.map fun a => (hdC a).length) = l.map (fun _ => 2) from List.map_congr_left fun _ _ => rfl]
  simp [List.map_const', Nat.mul_comm]
theorem hds_at {l : List (ByteArray × ByteArray)} {k : Nat} {p : ByteArray × ByteArray} (h : l[k]? = some p) : ∀ j u, [Value.string p.1, .string p.2][j]? = some u → (hds l)[k * 2 + j]? = some u := fun j u hu => by
  have hj : j < 2 := (List.getElem?_eq_some_iff.1 hu).1
  rw [← hu]
  exact flat_at hdC 2 (fun _ => rfl) l k j p h hj
theorem infoH : ∃ i, Tryz.prog.info? 45 = some i ∧ i.zero = some (.agg #[.string ⟨#[]⟩, .string ⟨#[]⟩]) ∧ i.size = 2 ∧ i.bytes = 32 := by
  have h : (Tryz.prog.info? 45).map (fun i => (i.zero, i.size, i.bytes)) = some (some (.agg #[.string ⟨#[]⟩, .string ⟨#[]⟩]), 2, 32) := by kernel_rfl
  rw [Option.map_eq_some_iff] at h
  obtain ⟨i, hi, he⟩ := h
  injection he with h1 h2
  injection h2 with h2 h3
  exact ⟨i, hi, h1, h2, h3⟩
theorem sizeH (a b : Value) : (Tryz.prog.info? 45).map (·.size) = some [a, b].length := by
  obtain ⟨i, hi, _, hs, _⟩ := infoH
  rw [hi]; exact congrArg some hs
theorem Rds.range2 {w : World} {b o : Nat} {cs : List Value} (h : ∀ j u, cs[j]? = some u → w.cell? ⟨b, o + j, none⟩ = some u) (k : Nat) (us : List Value) (hu : ∀ j u, us[j]? = some u → cs[k + j]? = some u) : w.rangeAt b (o + k) us := fun j u hj => by
  rw [Nat.add_assoc]
  exact h _ _ (hu j u hj)
/-- The two variables that named's function has captured. -/
structure NM (w : World) (eb cb : Nat) (C : Option (List Int)) : Prop where
  c : w.cell? ⟨cb, 0, none⟩ = some (.string (strOfNums (C.getD [])))
  e : w.cell? ⟨eb, 0, none⟩ = some (.int .u8 (if C.isSome = true then 0 else 5))
theorem NM.below {w w1 : World} {eb cb : Nat} {C : Option (List Int)} (h : NM w eb cb C) (hb : Below w.heap.size w w1) : NM w1 eb cb C :=
  ⟨(hb.cell (World.block_lt_of_cell? w _ h.c)).trans h.c, (hb.cell (World.block_lt_of_cell? w _ h.e)).trans h.e⟩
def nmV (eb cb : Nat) : Value := .func (.func 62) #[] #[.pointer (some ⟨eb, 0, none⟩), .pointer (some ⟨cb, 0, none⟩)]
theorem canonV_eq (C : Option (List Int)) : canonV C = .tuple #[.string (strOfNums (C.getD [])), .int .u8 (if C.isSome = true then 0 else 5)] := by cases C <;> rfl
theorem canonL_by' {a x : List Int} (ha : By a) (h : canonL a = some x) : By x := by
  unfold canonL at h
  split at h
  · injection h with h
    subst h
    exact canonT_by ha
  · cases h
set_option maxRecDepth 100000 in
theorem named_any (s : ByteArray) (w : World) (hM : s.size ≤ 4000000) (hS : SC w) :
    Calls Tryz.prog 49 #[.string s] w fun e w' => Below w.heap.size w w' ∧ ∃ eb cb, e = .returned (nmV eb cb) ∧ NM w' eb cb (canonL (byteL s)) := by
  have CN := Lib.hid (nmcanon_any s w hM hS)
  generalize canonL (byteL s) = C at *
  rw [canonV_eq] at CN
  obtain ⟨c, hc⟩ : ∃ c, strOfNums (C.getD []) = c := ⟨_, rfl⟩
  obtain ⟨k, hk⟩ : ∃ k : Int, (if C.isSome = true then 0 else 5) = k := ⟨_, rfl⟩
  rw [hc, hk] at CN
  have HC := Lib.hid hc; have HK := Lib.hid hk
  clear hc hk hS
  go_enter Tryz.func49, Tryz.ntmps49
  go_wp2_with fail
  refine CN.out.mono ?_
  rintro e w1 ⟨rfl, hb⟩
  have B1 := Lib.hid hb
  clear hb
  go_wp2_with fail
  go_ret
  refine ⟨?_, w1.heap.size + 1, w1.heap.size, rfl, ?_, ?_⟩
  · exact (B1.out.alloc B1.out.size _).alloc (by rw [World.size_alloc]; have := B1.out.size; omega) _
  · rw [HC.out]
    exact ((Row.new w1 9 [.string c]).alloc _).cell 0
  · rw [HK.out]
    have h := Row.new (w1.alloc (.cells #[.string c] 9)) 27 [.int .u8 k]
    rw [World.size_alloc] at h
    exact h.cell 0
theorem getD_beq {o c : List Int} (ho : By o) (hc : By c) : ((strOfNums o).toList == (strOfNums c).toList) = (o == c) := by
  rw [Bool.eq_iff_iff, beq_iff_eq, beq_iff_eq, toList_inj]
  constructor
  · intro h
    rw [← byteL_str ho, h, byteL_str hc]
  · rintro rfl; rfl
def errK (C : Option (List Int)) : Int := if C.isSome = true then 0 else 5
set_option maxRecDepth 100000 in
theorem hitn_any (n v : ByteArray) (eb cb : Nat) (C : Option (List Int)) (w : World) (hM : n.size ≤ 4000000) (hS : SC w) (hN : NM w eb cb C) (hC : ∀ c, C = some c → By c) :
    Calls Tryz.prog 62 #[.agg #[.string n, .string v], .pointer (some ⟨eb, 0, none⟩), .pointer (some ⟨cb, 0, none⟩)] w fun e w' => e = .returned (.bool (hitN C (n, v))) ∧ Below w.heap.size w w' := by
  have B0 := Lib.hid ((Below.refl w.heap.size w).alloc (Nat.le_refl _) (.cells #[.string n, .string v] 45))
  have CN := Lib.hid (nmcanon_any n _ hM (hS.below B0.out))
  have N0 := Lib.hid (hN.below B0.out)
  have HB := Lib.hid (fun x (h : canonL (byteL n) = some x) => canonL_by' (byteL_by n) h)
  have HE := Lib.hid (show hitN C (n, v) = eqN (canonL (byteL n)) C from rfl)
  generalize hitN C (n, v) = X at *
  generalize canonL (byteL n) = O at *
  clear hS hN
  have HC := Lib.hid hC
  clear hC
  go_enter Tryz.func62, Tryz.ntmps62
  go_wp2_with fail
  refine CN.out.mono ?_
  rintro e w1 ⟨rfl, hb⟩
  have B1 := Lib.hid (bthen B0.out hb)
  have N1 := Lib.hid (N0.out.below hb)
  clear hb CN N0
  have k0 := N1.out.c
  have k1 := N1.out.e
  cases O with
  | none =>
    have E := Lib.hid (show X = false by rw [HE.out]; rfl)
    rw [show canonV none = .tuple #[.string ⟨#[]⟩, .int .u8 5] from rfl]
    cases C with
    | none =>
      rw [show (if (Option.isSome (none : Option (List Int))) = true then (0 : Int) else 5) = 5 from rfl] at k1
      go_wp2_with fail
      go_ret
      exact ⟨ret_bool E.out.symm, B1.out⟩
    | some c =>
      rw [show (if (Option.isSome (some c)) = true then (0 : Int) else 5) = 0 from rfl] at k1
      go_wp2_with fail
      go_ret
      exact ⟨ret_bool E.out.symm, B1.out⟩
  | some o =>
    rw [show canonV (some o) = .tuple #[.string (strOfNums o), .int .u8 0] from rfl]
    cases C with
    | none =>
      have E := Lib.hid (show X = false by rw [HE.out]; rfl)
      rw [show (if (Option.isSome (none : Option (List Int))) = true then (0 : Int) else 5) = 5 from rfl] at k1
      go_wp2_with fail
      go_ret
      exact ⟨ret_bool E.out.symm, B1.out⟩
    | some c =>
      have E := Lib.hid (show ((strOfNums o).toList == (strOfNums c).toList) = X by rw [HE.out, getD_beq (HB.out _ rfl) (HC.out _ rfl)]; rfl)
      rw [show (if (Option.isSome (some c)) = true then (0 : Int) else 5) = 0 from rfl] at k1
      rw [show (some c).getD [] = c from rfl] at k0
      go_wp2_with fail
      go_ret
      exact ⟨ret_bool E.out, B1.out⟩
def idxV : Option Nat → Value
  | none => .int .i64 (-1)
  | some k => .int .i64 k
def missH (l : List (ByteArray × ByteArray)) (C : Option (List Int)) (k : Nat) : Prop := ∀ j p, j < k → l[j]? = some p → hitN C p = false
theorem missH_zero (l : List (ByteArray × ByteArray)) (C : Option (List Int)) : missH l C 0 := fun _ _ h => absurd h (Nat.not_lt_zero _)
theorem missH_succ {l : List (ByteArray × ByteArray)} {C : Option (List Int)} {k : Nat} {p : ByteArray × ByteArray} (h : missH l C k) (hp : l[k]? = some p) (hq : hitN C p = false) : missH l C (k + 1) := fun j q hj hqj => by
  rcases Nat.lt_or_ge j k with h1 | h1
  · exact h j q h1 hqj
  · obtain rfl : j = k := by omega
    obtain rfl := Option.some.inj (hp.symm.trans hqj)
    exact hq
theorem findH_some {l : List (ByteArray × ByteArray)} {C : Option (List Int)} {k : Nat} {p : ByteArray × ByteArray} (h : missH l C k) (hp : l[k]? = some p) (hq : hitN C p = true) : l.findIdx? (hitN C) = some k := by
  obtain ⟨h1, h2⟩ := List.getElem?_eq_some_iff.1 hp
  rw [List.findIdx?_eq_some_iff_getElem]
  refine ⟨h1, by rw [h2]; exact hq, fun j hj => ?_⟩
  have := h j _ hj (List.getElem?_eq_getElem (by omega))
  simp [this]
theorem findH_none {l : List (ByteArray × ByteArray)} {C : Option (List Int)} (h : missH l C l.length) : l.findIdx? (hitN C) = none := by
  rw [List.findIdx?_eq_none_iff]
  intro p hp
  obtain ⟨j, hj⟩ := List.mem_iff_getElem?.1 hp
  exact h j p (List.getElem?_eq_some_iff.1 hj).1 hj
set_option maxRecDepth 100000 in
theorem indexh_any (A : Option Addr) (n c eb cb : Nat) (l : List (ByteArray × ByteArray)) (C : Option (List Int)) (w : World) (hA : Rds w w.heap.size A (hds l)) (hn : l.length = n) (hN : n ≤ 16000000) (hl : ∀ h ∈ l, h.1.size ≤ 4000000) (hS : SC w) (hM : NM w eb cb C) (hC : ∀ c, C = some c → By c) :
    Calls Tryz.prog 48 #[.slice A n c, nmV eb cb] w fun e w' => e = .returned (idxV (l.findIdx? (hitN C))) ∧ Below w.heap.size w w' := by
  have HA := Lib.hid hA; have HN := Lib.hid hn; have HM := Lib.hid hM; have HS := Lib.hid hS; have HC := Lib.hid hC; have HL := Lib.hid hl
  clear hA hn hM hS hC hl
  unfold nmV
  go_enter Tryz.func48, Tryz.ntmps48
  go_wp2_with fail
  go_loopw [8] (fun v wr => ∃ k : Nat, k ≤ n ∧ v = .int .i64 k ∧ Hid (missH l C k) ∧ Hid (Below w.heap.size w wr)) (fun v _ => n - (intOf v).toNat)
  case atStart => exact ⟨0, Nat.zero_le _, rfl, Lib.hid (missH_zero _ _), Lib.hid (Below.refl _ _)⟩
  case round =>
    obtain ⟨k, hk, rfl, HK, BR⟩ := hrel
    by_cases hlt : k < n
    · have hd : decide (k < n) = true := by simp [hlt]
      have hd2 : decide ((k : Int) < (n : Int)) = true := by simp; omega
      obtain ⟨p, hp⟩ : ∃ p, l[k]? = some p := ⟨_, List.getElem?_eq_getElem (by rw [HN.out]; exact hlt)⟩
      obtain ⟨x1, o1, rfl, hx1, hc1⟩ := HA.out (by rw [hds_len, HN.out]; omega)
      have G1 := Lib.hid (show wr.rangeAt x1 (o1 + k * 2) [.string p.1, .string p.2] from fun j v hv => (BR.out.cell (p := ⟨x1, _, none⟩) hx1).trans (Rds.range2 hc1 (k * 2) _ (hds_at hp) j v hv))
      have HI := Lib.hid (hitn_any p.1 p.2 eb cb C wr (HL.out p (List.mem_of_getElem? hp)) (HS.out.below BR.out) (HM.out.below BR.out) HC.out)
      have KS := Lib.hid (fun h => missH_succ HK.out hp h)
      have KF := Lib.hid (fun h => findH_some HK.out hp h)
      clear hc1 hp HK
      obtain ⟨pa, pb⟩ := p
      dsimp only at G1 HI
      go_wp2_with (with_reducible refine wpList_load_mid rfl 45 (.tmp 14) rfl x1 (o1 + k * 2) rfl [.string pa, .string pb] _ G1.out Tryz.underlying45 rfl (sizeH _ _) ?_)
      refine HI.out.mono ?_
      rintro e w' ⟨rfl, hb'⟩
      have B2 := Lib.hid (bthen BR.out hb')
      clear hb' G1 HI
      cases hq : hitN C (pa, pb) with
      | true =>
        have E := Lib.hid (KF.out hq)
        clear KS KF hq
        go_wp2_with fail
        go_ret
        exact ⟨by rw [E.out]; rfl, B2.out⟩
      | false =>
        have K2 := Lib.hid (KS.out hq)
        clear KS KF hq
        go_wp2_with fail
        go_roundw
        case rel => exact ⟨k + 1, by omega, by go_num, K2, B2⟩
        case measure => simp [intOf]; omega
    · obtain rfl : k = n := by omega
      have E := Lib.hid (findH_none (show missH l C l.length by rw [HN.out]; exact HK.out))
      go_wp2_with fail
      go_ret
      exact ⟨by rw [E.out]; rfl, BR.out⟩
end Go.Proofs.YtcnkjgjimcddiaaGreatDoor
