/- Contract: message.Get. -/
import Derived.Test.YtcnkjgjimcddiaaGreatDoorAe
namespace Go.Proofs.YtcnkjgjimcddiaaGreatDoor
open Go.RowKit

def getHV (l : List (ByteArray × ByteArray)) : Option Nat → Value
  | none => .tuple #[.string ⟨#[]⟩, .bool false]
  | some k => .tuple #[.string (l.getD k (⟨#[]⟩, ⟨#[]⟩)).2, .bool true]
set_option maxRecDepth 100000 in
theorem getm_any (ms uri rsn nm : ByteArray) (code : Int) (A B : Option Addr) (n c m d : Nat) (l : List (ByteArray × ByteArray)) (w : World) (hA : Rds w w.heap.size A (hds l)) (hn : l.length = n) (hN : n ≤ 16000000) (hl : ∀ h ∈ l, h.1.size ≤ 4000000) (hM : nm.size ≤ 4000000) (hS : SC w) :
    Calls Tryz.prog 42 #[.agg #[.string ms, .string uri, .int .i64 code, .string rsn, .slice A n c, .slice B m d], .string nm] w fun e w' => e = .returned (getHV l (getH l (byteL nm))) ∧ Below w.heap.size w w' := by
  have R := Lib.hid (Row.new w 51 [.string ms, .string uri, .int .i64 code, .string rsn, .slice A n c, .slice B m d])
  have B0 := Lib.hid ((Below.refl w.heap.size w).alloc (Nat.le_refl _) (.cells #[.string ms, .string uri, .int .i64 code, .string rsn, .slice A n c, .slice B m d] 51))
  have HA := Lib.hid ((hA.below B0.out).up B0.out.size); have HN := Lib.hid hn; have HL := Lib.hid hl; have HS := Lib.hid (hS.below B0.out)
  have HC := Lib.hid (fun c (h : canonL (byteL nm) = some c) => canonL_by' (byteL_by nm) h)
  have HG := Lib.hid (show getH l (byteL nm) = l.findIdx? (hitN (canonL (byteL nm))) from rfl)
  have GK := Lib.hid (fun k (h : getH l (byteL nm) = some k) => show ∃ p, l[k]? = some p from by
    obtain ⟨h1, _⟩ := List.findIdx?_eq_some_iff_getElem.1 h
    exact ⟨_, List.getElem?_eq_getElem h1⟩)
  generalize getH l (byteL nm) = X at *
  have ND := Lib.hid (fun w h => named_any nm w hM h)
  generalize canonL (byteL nm) = C at *
  clear hA hn hl hS hM
  go_enter Tryz.func42, Tryz.ntmps42
  go_wp2_with fail
  generalize w.alloc (.cells #[.string ms, .string uri, .int .i64 code, .string rsn, .slice A n c, .slice B m d] 51) = W at *
  have k4 := R.out.cell 4
  simp only [List.getElem?_cons_succ, List.getElem?_cons_zero] at k4
  have HAd := Lib.hid (show Rds W.drew W.drew.heap.size A (hds l) from HA.out)
  have HSd := Lib.hid (show SC W.drew from HS.out)
  have Rd := Lib.hid R.out.drew
  have Bd := Lib.hid (show Below w.heap.size w W.drew from B0.out.drew)
  clear HA HS R B0
  go_region_with ((first
    | (go_at_call 49
       refine (ND.out _ HSd.out).mono ?_
       rintro e W1 ⟨hb, eb, cb, rfl, hnm⟩
       have R1 := Lib.hid (Rd.out.below hb); have HA1 := Lib.hid ((HAd.out.below hb).up hb.size); have HS1 := Lib.hid (HSd.out.below hb); have NM1 := Lib.hid hnm; have B1 := Lib.hid (bthen Bd.out hb)
       clear hb hnm k4
       have k4 := R1.out.cell 4
       simp only [List.getElem?_cons_succ, List.getElem?_cons_zero] at k4)
    | (go_at_call 48
       refine (indexh_any A n c _ _ l C _ HA1.out HN.out hN HL.out HS1.out NM1.out HC.out).mono ?_
       rintro e W2 ⟨rfl, hb⟩
       rw [← HG.out]
       have R2 := Lib.hid (R1.out.below hb); have HA2 := Lib.hid ((HA1.out.below hb).up hb.size); have B2 := Lib.hid (bthen B1.out hb)
       clear hb k4
       have k4 := R2.out.cell 4
       simp only [List.getElem?_cons_succ, List.getElem?_cons_zero] at k4)))
  all_goals
    clear HG ND Rd Bd R1 HA1 HS1 NM1 B1 HC HSd HAd
    cases X with
    | none =>
      rw [show idxV none = .int .i64 (-1) from rfl]
      go_wp2_with fail
      go_ret2
      exact ⟨rfl, B2.out⟩
    | some k =>
      obtain ⟨p, hp⟩ := GK.out k rfl
      have hlt : k < n := by rw [← HN.out]; exact (List.getElem?_eq_some_iff.1 hp).1
      obtain ⟨x1, o1, rfl, hx1, hc1⟩ := HA2.out (by rw [hds_len, HN.out]; omega)
      have c1 : W2.cell? ⟨x1, o1 + k * 2 + 1, none⟩ = some (.string p.2) := Rds.range2 hc1 (k * 2) _ (hds_at hp) 1 _ rfl
      have PE := Lib.hid (show getHV l (some k) = .tuple #[.string p.2, .bool true] by
        unfold getHV
        dsimp only
        rw [List.getD_eq_getElem?_getD, hp]; rfl)
      have hd : decide (k < n) = true := by simp [hlt]
      obtain ⟨pa, pb⟩ := p
      dsimp only at c1 PE
      clear hc1 hp HA2 GK
      have hng : decide ((k : Int) < 0) = false := by simp
      rw [show idxV (some k) = .int .i64 k from rfl]
      go_wp2_with fail
      go_ret2
      exact ⟨by rw [PE.out]; rfl, B2.out⟩
end Go.Proofs.YtcnkjgjimcddiaaGreatDoor
