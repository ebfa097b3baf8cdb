/- Guards and nonces: words, the reference 07's Same, slices.Clone of nonces, auth's clean, Valid and its reference. auth's clean; Valid and its reference. Accounts found: the reference's secret, slices.IndexFunc over Verify's closure; the reference's presented. -/
import Derived.Test.YtfhbpgickkibmaaGreatDoorNg
import Derived.Test.YtfhbpgickkibmaaGreatDoorCc
import Derived.Test.YtfhbpgickkibmaaGreatDoorDc
import Derived.Test.YtfhbpgickkibmaaGreatDoorNh
namespace Go.Proofs.YtfhbpgickkibmaaGreatDoor
open Go.RowKit

/-- A nonce as it lies in three cells. -/
structure Nce where
  v : ByteArray
  a : Int
  k : Int
def ncC (p : Nce) : List Value := [.string p.v, .int .i64 p.a, .int .i64 p.k]
def ncs (l : List Nce) : List Value := l.flatMap ncC
theorem ncs_snoc (l : List Nce) (p : Nce) : ncs (l ++ [p]) = ncs l ++ ncC p := by simp [ncs]
theorem ncs_len (l : List Nce) : (ncs l).length = l.length * 3 := by
  induction l with
  | nil => rfl
  | cons p l ih => rw [show ncs (p :: l) = ncC p ++ ncs l from rfl, List.length_append, ih]; simp [ncC]; omega
theorem ncs_at {l : List Nce} {k : Nat} {p : Nce} (h : l[k]? = some p) : ∀ j u, [.string p.v, .int .i64 p.a, .int .i64 p.k][j]? = some u → (ncs l)[k * 3 + j]? = some u := fun j u hu => by
  have hj : j < 3 := (List.getElem?_eq_some_iff.1 hu).1
  rw [← hu]
  exact flat_at ncC 3 (fun _ => rfl) l k j p h hj
theorem infoNc : ∃ i, Tryz.prog.info? 76 = some i ∧ i.zero = some (.agg #[.string ⟨#[]⟩, .int .i64 0, .int .i64 0]) ∧ i.size = 3 ∧ i.bytes = 32 := by
  have h : (Tryz.prog.info? 76).map (fun i => (i.size, i.zero, i.bytes)) = some (3, some (.agg #[.string ⟨#[]⟩, .int .i64 0, .int .i64 0]), 32) := by kernel_rfl
  rw [Option.map_eq_some_iff] at h
  obtain ⟨i, hi, he⟩ := h
  injection he with h1 h2
  injection h2 with h2 h3
  exact ⟨i, hi, h2, h1, h3⟩
theorem sizeNc3 : (Tryz.prog.info? 76).map (·.size) = some 3 := by kernel_rfl
theorem sizeNc (a b c : Value) : (Tryz.prog.info? 76).map (·.size) = some [a, b, c].length := sizeNc3
theorem lenNc (a b c d e f : Value) : [a, b, c].length = [d, e, f].length := rfl
theorem nc_one (a : ByteArray) (k m : Int) : ∀ u ∈ [Value.string a, .int .i64 k, .int .i64 m], u.oneCell' = true := fun u hu => by
  simp at hu
  rcases hu with rfl | rfl | rfl <;> rfl
theorem ncs_one (l : List Nce) : ∀ u ∈ ncs l, u.oneCell' = true := fun u hu => by
  obtain ⟨p, _, hp⟩ := List.mem_flatMap.1 hu
  exact nc_one _ _ _ u hp
theorem guardN (x y : Operand) (xs ys : Array Value) (w : World) : (eqGuard .neq 76 x y (.agg xs) (.agg ys)).run Tryz.prog w = .ok () w := run_eqGuard_agg w .neq _ x y xs ys (by kernel_rfl)
theorem sameN (a : ByteArray) (k m : Int) (w : World) : (Op.equalIn 10000 76 (.agg #[.string a, .int .i64 k, .int .i64 m]) (.agg #[.string a, .int .i64 k, .int .i64 m])).run Tryz.prog w = .ok true w := by
  have u9 := Tryz.underlying9
  have a9 := Tryz.isAgg9
  have u3 := Tryz.underlying3
  have a3 := Tryz.isAgg3
  have hS : Tryz.prog.underlying 76 = some (.struct (Tryz.prog.fieldsOf 76)) := by kernel_rfl
  have hp : Tryz.prog.stoodInHeld 76 = false := by kernel_rfl
  rw [show (10000 : Nat) = 9999 + 1 from rfl, run_equalIn_agg w 9999 76 _ _ hS hp]
  simp only [Program.fieldsOf, Tryz.underlying76]
  go_simp
set_option maxRecDepth 100000 in
set_option maxHeartbeats 1000000 in
theorem same07_any (re ke : ByteArray) (life iss : Int) (A1 A2 : Option Addr) (n c1 c2 : Nat) (l : List Nce) (w : World) (hA1 : Rds w w.heap.size A1 (ncs l)) (hA2 : Rds w w.heap.size A2 (ncs l)) (hn : l.length = n) (hN : n ≤ 16000000) :
    Calls Tryz.prog 27 #[.agg #[.string re, .string ke, .int .i64 life, .int .i64 iss, .slice A1 n c1], .agg #[.string re, .string ke, .int .i64 life, .int .i64 iss, .slice A2 n c2]] w fun e w' => e = .returned (.bool true) ∧ Below w.heap.size w w' := by
  have HN := Lib.hid hn
  have B0 := Lib.hid ((Below.refl w.heap.size w).alloc (Nat.le_refl _) (.cells #[.string re, .string ke, .int .i64 life, .int .i64 iss, .slice A1 n c1] 49))
  have R1 := Lib.hid (show Row (((w.alloc (.cells #[.string re, .string ke, .int .i64 life, .int .i64 iss, .slice A1 n c1] 49)).alloc (.cells #[.string re, .string ke, .int .i64 life, .int .i64 iss, .slice A2 n c2] 49))) w.heap.size 49 [.string re, .string ke, .int .i64 life, .int .i64 iss, .slice A1 n c1] from (Row.new w 49 [.string re, .string ke, .int .i64 life, .int .i64 iss, .slice A1 n c1]).alloc _)
  have R2 := Lib.hid (show Row (((w.alloc (.cells #[.string re, .string ke, .int .i64 life, .int .i64 iss, .slice A1 n c1] 49)).alloc (.cells #[.string re, .string ke, .int .i64 life, .int .i64 iss, .slice A2 n c2] 49))) (w.heap.size + 1) 49 [.string re, .string ke, .int .i64 life, .int .i64 iss, .slice A2 n c2] by
    have h := Row.new ((w.alloc (.cells #[.string re, .string ke, .int .i64 life, .int .i64 iss, .slice A1 n c1] 49))) 49 [.string re, .string ke, .int .i64 life, .int .i64 iss, .slice A2 n c2]
    rwa [World.size_alloc] at h)
  have BZ := Lib.hid (show Below w.heap.size w (((w.alloc (.cells #[.string re, .string ke, .int .i64 life, .int .i64 iss, .slice A1 n c1] 49)).alloc (.cells #[.string re, .string ke, .int .i64 life, .int .i64 iss, .slice A2 n c2] 49))) from B0.out.alloc B0.out.size _)
  have HA1 := Lib.hid (hA1.below BZ.out); have HA2 := Lib.hid (hA2.below BZ.out)
  have HZ := Lib.hid BZ.out.size
  obtain ⟨a0, a1, a2, a3, a4⟩ := R1.out.five
  obtain ⟨b0, b1, b2, b3, b4⟩ := R2.out.five
  clear hA1 hA2 hn B0
  go_enter Tryz.func27, Tryz.ntmps27
  go_wp2_with fail
  clear a0 a1 a2 a3 a4 b0 b1 b2 b3 b4
  generalize ((w.alloc (.cells #[.string re, .string ke, .int .i64 life, .int .i64 iss, .slice A1 n c1] 49)).alloc (.cells #[.string re, .string ke, .int .i64 life, .int .i64 iss, .slice A2 n c2] 49)) = W at *
  go_loopw [5] (fun v wr => ∃ i : Nat, i ≤ n ∧ v = .int .i64 i ∧ Hid (Below W.heap.size W wr)) (fun v _ => n - (intOf v).toNat)
  case atStart => exact ⟨0, Nat.zero_le _, rfl, Lib.hid (Below.refl _ _)⟩
  case round =>
    obtain ⟨i, hi, rfl, BR⟩ := hrel
    have RA := Lib.hid (R1.out.below BR.out)
    have RB := Lib.hid (R2.out.below BR.out)
    have e4 : wr.cell? ⟨w.heap.size, 4, none⟩ = some (.slice A1 n c1) := RA.out.cell 4
    have f4 : wr.cell? ⟨w.heap.size + 1, 4, none⟩ = some (.slice A2 n c2) := RB.out.cell 4
    by_cases hlt : i < n
    · have hd : decide (i < n) = true := by simp [hlt]
      have hd2 : decide ((i : Int) < (n : Int)) = true := by simp; omega
      obtain ⟨p, hp⟩ : ∃ p, l[i]? = some p := ⟨_, List.getElem?_eq_getElem (by rw [HN.out]; exact hlt)⟩
      obtain ⟨x1, o1, rfl, hx1, hc1⟩ := HA1.out (by rw [ncs_len, HN.out]; omega)
      obtain ⟨x2, o2, rfl, hx2, hc2⟩ := HA2.out (by rw [ncs_len, HN.out]; omega)
      have hz := Nat.le_trans HZ.out BR.out.size
      have hz1 := HZ.out
      have G1 := Lib.hid (show wr.rangeAt x1 (o1 + i * 3) [.string p.v, .int .i64 p.a, .int .i64 p.k] from fun j v hv => (BR.out.cell (p := ⟨x1, _, none⟩) (by show x1 < _; omega)).trans (Rds.range (B := 0) hc1 (i * 3) _ (ncs_at hp) j v hv))
      have G2 := Lib.hid (show wr.rangeAt x2 (o2 + i * 3) [.string p.v, .int .i64 p.a, .int .i64 p.k] from fun j v hv => (BR.out.cell (p := ⟨x2, _, none⟩) (by show x2 < _; omega)).trans (Rds.range (B := 0) hc2 (i * 3) _ (ncs_at hp) j v hv))
      have y1 : x1 < wr.heap.size := by omega
      have y2 : x2 < wr.heap.size := by omega
      obtain ⟨pv, pa, pk⟩ := p
      dsimp only at G1 G2
      clear hc1 hc2 hp hz hz1
      go_wp2_with fail
      clear e4 f4
      have q1 := fun x : BW wr => RA.out.later x 4
      have q2 := fun x : BW wr => RB.out.later x 4
      simp only [List.getElem?_cons_succ, List.getElem?_cons_zero] at q1 q2
      have hgd := guardN
      have hsm := sameN
      have hse : ∀ (xs ys : Array Value) (w : World), (binOp .neq 76 (.agg xs) (.agg ys)).run Tryz.prog w = ((Op.equalIn 10000 76 (.agg xs) (.agg ys)).run Tryz.prog w).andThen fun b w' => .ok (.bool (!b)) w' := fun xs ys w => run_neq_struct w _ xs ys
      have i0 : (0 : Int) ≤ (i : Int) := by omega
      have i1 : (i : Int) < (n : Int) := by omega
      refine region_bw (by kernel_rfl) (by kernel_rfl) ?_
      iterate 4 go_big_quiet_step (fail)
      go_big_quiet_want
      refine quiet_range 76 (.tmp 51) rfl x1 (o1 + i * 3) rfl _ _ G1.out y1 Tryz.underlying76 rfl (sizeNc _ _ _) ?_
      simp only [Act.put, List.setIfInBounds_toArray, List.set_cons_zero, List.set_cons_succ]
      go_big_quiet_on
      iterate 4 go_big_quiet_step (fail)
      go_big_quiet_want
      refine quiet_range 76 (.tmp 56) rfl x2 (o2 + i * 3) rfl _ _ G2.out y2 Tryz.underlying76 rfl (sizeNc _ _ _) ?_
      simp only [Act.put, List.setIfInBounds_toArray, List.set_cons_zero, List.set_cons_succ]
      go_big_quiet_on
      go_big_quiet_step (fail)
      refine wpQuiet_nil ?_
      rintro _ ⟨x, rfl⟩
      have B9 := Lib.hid (bthen BR.out x.h)
      clear q1 q2 hgd hsm hse
      go_wp2_with fail
      go_roundw
      case rel => exact ⟨i + 1, by omega, by go_num, B9⟩
      case measure => simp [intOf]; omega
    · obtain rfl : i = n := by omega
      go_wp2_with fail
      go_ret
      exact ⟨rfl, BZ.out.trans (BR.out.mono BZ.out.size)⟩
theorem VX.newT (w : World) (T : TypeId) (sz : Nat) : VX T sz w (.slice (some ⟨w.heap.size, 0, none⟩) 0 0) 0 [] (w.alloc (.cells #[] T)) := by
  refine ⟨⟨by simp, .inr ⟨w.heap.size, 0, _, rfl, Nat.le_refl _, heap_alloc_new w _, ?_⟩⟩, (Below.refl _ _).alloc (Nat.le_refl _) _⟩
  simp
set_option maxRecDepth 100000 in
theorem cloneN_any (A : Option Addr) (n c : Nat) (l : List Nce) (w : World) (hn : l.length = n) (hA : Rds w w.heap.size A (ncs l)) (hnil : A = none → n = 0 ∧ c = 0) (hN : n ≤ 2000000) :
    Calls Tryz.prog 60 #[.slice A n c] w fun e w' => ∃ v, e = .returned v ∧ VX 76 3 w v n (ncs l) w' := by
  have HN := Lib.hid hn; have HA := Lib.hid hA
  cases A with
  | none =>
    obtain ⟨rfl, rfl⟩ := hnil rfl
    obtain rfl : l = [] := List.eq_nil_of_length_eq_zero hn
    have e1 := fun w => Lib.run_eql_slice_nil (P := Tryz.prog) w 47 76 none 0 0 0 0 Tryz.underlying47
    clear hn hA hnil
    go_enter Tryz.func60, Tryz.ntmps60
    go_wp2_with fail
    go_ret
    exact ⟨_, rfl, VX.nil _ _ _⟩
  | some ad =>
    have e1 := fun w => Lib.run_eql_slice_nil (P := Tryz.prog) w 47 76 (some ad) n c 0 0 Tryz.underlying47
    have V0 := Lib.hid (VX.newT w 76 3)
    have HB1 := Lib.hid ((hA.below V0.out.bw).up V0.out.bw.size)
    obtain ⟨i, hi, hz, hsz, hbt⟩ := infoNc
    have HI := Lib.hid hi; have HZ := Lib.hid hz; have HS := Lib.hid hsz; have HT := Lib.hid hbt
    clear hn hA hnil hi hz hsz hbt
    go_enter Tryz.func60, Tryz.ntmps60
    go_wp2_with (with_reducible refine wpList_append_own _ rfl (.tmp 5) (.tmp 6) 47 rfl w.heap.size 76 i (.agg #[.string ⟨#[]⟩, .int .i64 0, .int .i64 0]) 3 32 Tryz.underlying47 HI.out HZ.out HS.out HT.out rfl (by decide) (.slice (some ⟨w.heap.size, 0, none⟩) 0 0) 0 [] rfl V0.out.o ad n c (ncs l) rfl (by rw [ncs_len, HN.out]) ?h1 (ncs_one l) (by unfold maxLen; omega) (by omega) V0.out.bw.size ?h2)
    case h1 =>
      intro j u hu
      obtain ⟨b, o, e, _, hc⟩ := HB1.out (by have := (List.getElem?_eq_some_iff.1 hu).1; omega)
      cases e
      rw [Addr.add_mid]
      exact hc j u hu
    case h2 =>
      intro v' w' h1 h2 _
      have h3 : w'.ownsRow w.heap.size 76 3 v' n (ncs l) := by simpa using h1
      have RB := Lib.hid (show VX 76 3 w v' n (ncs l) w' from ⟨h3, V0.out.bw.grown h2 V0.out.bw.size (fun k hk => by simp [Value.ownBlock] at hk; omega)⟩)
      clear h1 h2 h3
      go_wp2_with fail
      go_ret
      exact ⟨_, rfl, RB.out⟩
end Go.Proofs.YtfhbpgickkibmaaGreatDoor
namespace Go.Proofs.YtfhbpgickkibmaaGreatDoor
open Go.RowKit

set_option maxRecDepth 100000 in
theorem cleanw_any (s : ByteArray) (w : World) (hs : s.size ≤ 4000000) : Calls Tryz.prog 68 #[.string s] w fun e w' => e = .returned (.bool (clean (byteL s))) ∧ Below w.heap.size w w' := by
  have Q := Lib.hid (fun w => quote_any s w hs)
  go_enter Tryz.func68, Tryz.ntmps68
  go_wp2_with fail
  refine (Q.out _).mono ?_
  rintro e w1 ⟨rfl, hb⟩
  have HB := Lib.hid hb
  clear hb
  cases hc : clean (byteL s) with
  | true =>
    rw [quoteV_yes hc]
    have HC := Lib.hid hc
    clear hc
    go_wp2_with fail
    go_ret
    exact ⟨by rw [HC.out]; rfl, HB.out⟩
  | false =>
    rw [quoteV_no hc]
    have HC := Lib.hid hc
    clear hc
    go_wp2_with fail
    go_ret
    exact ⟨by rw [HC.out]; rfl, HB.out⟩
def ncOk (p : Nce) : Bool := decide (0 ≤ p.a) && (decide (p.a ≤ 1099511627776) && (decide (0 ≤ p.k) && decide (p.k ≤ 4294967295)))
/-- A guard that Valid accepts. -/
def validG (re ke : List Int) (life iss : Int) (l : List Nce) : Bool := clean re && (clean ke && (decide (1 ≤ life) && (decide (life ≤ 1099511627776) && (decide (0 ≤ iss) && (decide (iss ≤ 2147483647) && (decide (l.length ≤ 64) && l.all ncOk))))))
set_option maxRecDepth 100000 in
set_option maxHeartbeats 2000000 in
theorem valid_any (re ke : ByteArray) (life iss : Int) (A : Option Addr) (n c : Nat) (l : List Nce) (w : World) (hn : l.length = n) (hA : Rds w w.heap.size A (ncs l)) (hN : n ≤ 16000000) (s1 : re.size ≤ 4000000) (s2 : ke.size ≤ 4000000) :
    Calls Tryz.prog 30 #[.agg #[.string re, .string ke, .int .i64 life, .int .i64 iss, .slice A n c]] w fun e w' => e = .returned (.bool (validG (byteL re) (byteL ke) life iss l)) ∧ Below w.heap.size w w' := by
  have HN := Lib.hid hn
  have R1 := Lib.hid (Row.new w 49 [.string re, .string ke, .int .i64 life, .int .i64 iss, .slice A n c])
  have B0 := Lib.hid ((Below.refl w.heap.size w).alloc (Nat.le_refl _) (.cells #[.string re, .string ke, .int .i64 life, .int .i64 iss, .slice A n c] 49))
  have HA0 := Lib.hid (hA.below B0.out)
  have HA1 := Lib.hid (HA0.out.up B0.out.size)
  have EV0 := Lib.hid (show validG (byteL re) (byteL ke) life iss l = (clean (byteL re) && (clean (byteL ke) && (decide (1 ≤ life) && (decide (life ≤ 1099511627776) && (decide (0 ≤ iss) && (decide (iss ≤ 2147483647) && (decide (n ≤ 64) && l.all ncOk))))))) by unfold validG; rw [hn])
  generalize validG (byteL re) (byteL ke) life iss l = VG at *
  clear hn hA HA0
  obtain ⟨a0, a1, a2, a3, a4⟩ := R1.out.five
  have C1 := Lib.hid (fun w => cleanw_any re w s1); have C2 := Lib.hid (fun w => cleanw_any ke w s2)
  generalize clean (byteL re) = cr at *
  generalize clean (byteL ke) = ck at *
  go_enter Tryz.func30, Tryz.ntmps30
  go_wp2_with fail
  clear a0 a1 a2 a3 a4
  refine (C1.out _).mono ?_
  rintro e W ⟨rfl, hw⟩
  have R2 := Lib.hid (R1.out.below hw); have B2 := Lib.hid (bthen B0.out hw); have HA2 := Lib.hid ((HA1.out.below hw).up hw.size)
  clear hw R1 B0 HA1 C1
  have R1 := R2; have B0 := B2; have HA1 := HA2
  clear R2 B2 HA2
  obtain ⟨a0, a1, a2, a3, a4⟩ := R1.out.five
  cases cr with
  | false =>
    have E := Lib.hid (show VG = false by rw [EV0.out]; rfl)
    go_wp2_with fail
    go_ret
    exact ⟨by rw [E.out]; rfl, B0.out⟩
  | true =>
  go_wp2_with fail
  clear a0 a1 a2 a3 a4
  refine (C2.out _).mono ?_
  rintro e W2 ⟨rfl, hw⟩
  have R2 := Lib.hid (R1.out.below hw); have B2 := Lib.hid (bthen B0.out hw); have HA2 := Lib.hid ((HA1.out.below hw).up hw.size)
  clear hw R1 B0 HA1 C2
  have R1 := R2; have B0 := B2; have HA := HA2
  clear R2 B2 HA2
  obtain ⟨a0, a1, a2, a3, a4⟩ := R1.out.five
  cases ck with
  | false =>
    have E := Lib.hid (show VG = false by rw [EV0.out]; rfl)
    go_wp2_with fail
    go_ret
    exact ⟨by rw [E.out]; rfl, B0.out⟩
  | true =>
    simp only [Bool.true_and] at EV0
    generalize W2 = W at *
    by_cases k0 : life < 1
    · have E := Lib.hid (show VG = false by rw [EV0.out]; simp [show ¬ 1 ≤ life by omega])
      have d0 : decide (life < 1) = true := by simp [k0]
      clear k0
      go_wp2_with fail
      go_ret
      exact ⟨by rw [E.out]; rfl, B0.out⟩
    have d0 : decide (life < 1) = false := by simp [k0]
    have e0 : decide (1 ≤ life) = true := by simp; omega
    clear k0
    by_cases k1 : 1099511627776 < life
    · have E := Lib.hid (show VG = false by rw [EV0.out]; simp [show ¬ life ≤ 1099511627776 by omega])
      have d1 : decide (1099511627776 < life) = true := by simp [k1]
      clear k1
      go_wp2_with fail
      go_ret
      exact ⟨by rw [E.out]; rfl, B0.out⟩
    have d1 : decide (1099511627776 < life) = false := by simp [k1]
    have e1 : decide (life ≤ 1099511627776) = true := by simp; omega
    clear k1
    by_cases k2 : iss < 0
    · have E := Lib.hid (show VG = false by rw [EV0.out]; simp [show ¬ 0 ≤ iss by omega])
      have d2 : decide (iss < 0) = true := by simp [k2]
      clear k2
      go_wp2_with fail
      go_ret
      exact ⟨by rw [E.out]; rfl, B0.out⟩
    have d2 : decide (iss < 0) = false := by simp [k2]
    have e2 : decide (0 ≤ iss) = true := by simp; omega
    clear k2
    by_cases k3 : 2147483647 < iss
    · have E := Lib.hid (show VG = false by rw [EV0.out]; simp [show ¬ iss ≤ 2147483647 by omega])
      have d3 : decide (2147483647 < iss) = true := by simp [k3]
      clear k3
      go_wp2_with fail
      go_ret
      exact ⟨by rw [E.out]; rfl, B0.out⟩
    have d3 : decide (2147483647 < iss) = false := by simp [k3]
    have e3 : decide (iss ≤ 2147483647) = true := by simp; omega
    clear k3
    by_cases k4 : 64 < n
    · have E := Lib.hid (show VG = false by rw [EV0.out]; simp [show ¬ n ≤ 64 by omega])
      have d4 : decide (64 < n) = true := by simp [k4]
      have d4i : decide ((64 : Int) < (n : Int)) = true := by simp; omega
      clear k4
      go_wp2_with fail
      go_ret
      exact ⟨by rw [E.out]; rfl, B0.out⟩
    have d4 : decide (64 < n) = false := by simp [k4]
    have d4i : decide ((64 : Int) < (n : Int)) = false := by simp; omega
    have e4 : decide (n ≤ 64) = true := by simp; omega
    clear k4
    have EV := Lib.hid (show VG = l.all ncOk by rw [EV0.out, e0, e1, e2, e3, e4]; rfl)
    clear EV0 e0 e1 e2 e3 e4
    go_wp2_with fail
    clear a0 a1 a2 a3 a4 d0 d1 d2 d3 d4 d4i
    go_loopw [42] (fun v wr => ∃ i : Nat, i ≤ n ∧ v = .int .i64 i ∧ Hid (Below W.heap.size W wr) ∧ Hid (l.all ncOk = (l.drop i).all ncOk)) (fun v _ => n - (intOf v).toNat)
    case atStart => exact ⟨0, Nat.zero_le _, rfl, Lib.hid (Below.refl _ _), Lib.hid rfl⟩
    case round =>
      obtain ⟨i, hi, rfl, BR, HV⟩ := hrel
      have a4 : wr.cell? ⟨w.heap.size, 4, none⟩ = some (.slice A n c) := (R1.out.below BR.out).cell 4
      by_cases hlt : i < n
      · have hd : decide (i < n) = true := by simp [hlt]
        have hd2 : decide ((i : Int) < (n : Int)) = true := by simp; omega
        obtain ⟨p, hp⟩ : ∃ p, l[i]? = some p := ⟨_, List.getElem?_eq_getElem (by rw [HN.out]; exact hlt)⟩
        obtain ⟨x1, o1, rfl, hx1, hc1⟩ := HA.out (by rw [ncs_len, HN.out]; omega)
        have hz := Nat.lt_of_lt_of_le hx1 BR.out.size
        have G1 := Lib.hid (show wr.rangeAt x1 (o1 + i * 3) [.string p.v, .int .i64 p.a, .int .i64 p.k] from fun j v hv => (BR.out.cell (p := ⟨x1, _, none⟩) hx1).trans (Rds.range (B := 0) hc1 (i * 3) _ (ncs_at hp) j v hv))
        have KD := Lib.hid (show (l.drop i).all ncOk = (ncOk p && (l.drop (i + 1)).all ncOk) by
          obtain ⟨h1, h2⟩ := List.getElem?_eq_some_iff.1 hp
          rw [List.drop_eq_getElem_cons h1, List.all_cons, h2])
        rw [← HV.out] at KD
        clear hc1 hp hz HV
        have HOK := Lib.hid (show ncOk p = (decide (0 ≤ p.a) && (decide (p.a ≤ 1099511627776) && (decide (0 ≤ p.k) && decide (p.k ≤ 4294967295)))) from rfl)
        obtain ⟨pv, pa, pk⟩ := p
        dsimp only at G1 KD HOK
        generalize ncOk ⟨pv, pa, pk⟩ = ok at *
        have R0 := Lib.hid (Row.new wr 76 [.string ⟨#[]⟩, .int .i64 0, .int .i64 0])
        have BA := Lib.hid (BR.out.alloc BR.out.size (.cells #[.string ⟨#[]⟩, .int .i64 0, .int .i64 0] 76))
        have WS := Lib.hid BR.out.size
        go_wp2_with (first
          | (with_reducible refine wpList_load_mid rfl 76 (.tmp 44) rfl x1 (o1 + i * 3) rfl [.string pv, .int .i64 pa, .int .i64 pk] _ G1.out Tryz.underlying76 rfl (sizeNc _ _ _) ?_)
          | (with_reducible refine wpList_storeR rfl 76 (.tmp 4) (.tmp 45) rfl R0.out [.string pv, .int .i64 pa, .int .i64 pk] rfl rfl (lenNc _ _ _ _ _ _) (sizeNc _ _ _) (nc_one _ _ _) BA.out WS.out ?_))
        intro wa RA BA2 _
        have c1 : wa.cell? ⟨wr.heap.size, 1, none⟩ = some (.int .i64 pa) := RA.out.cell 1
        have c2 : wa.cell? ⟨wr.heap.size, 2, none⟩ = some (.int .i64 pk) := RA.out.cell 2
        clear R0 BA WS RA G1 a4
        rcases (show pa < 0 ∨ (0 ≤ pa ∧ 1099511627776 < pa) ∨ (0 ≤ pa ∧ pa ≤ 1099511627776 ∧ pk < 0) ∨ (0 ≤ pa ∧ pa ≤ 1099511627776 ∧ 0 ≤ pk ∧ 4294967295 < pk) ∨ (0 ≤ pa ∧ pa ≤ 1099511627776 ∧ 0 ≤ pk ∧ pk ≤ 4294967295) by omega) with h1 | ⟨h1, h2⟩ | ⟨h1, h2, h3⟩ | ⟨h1, h2, h3, h4⟩ | ⟨h1, h2, h3, h4⟩
        · have E := Lib.hid (show l.all ncOk = false by rw [KD.out, HOK.out]; simp [show ¬ 0 ≤ pa by omega])
          have d0 : decide (pa < 0) = true := by simp [h1]
          clear h1 KD HOK
          go_wp2_with fail
          go_ret
          exact ⟨by rw [EV.out, E.out]; rfl, bthen B0.out BA2.out⟩
        · have E := Lib.hid (show l.all ncOk = false by rw [KD.out, HOK.out]; simp [show ¬ pa ≤ 1099511627776 by omega])
          have d0 : decide (pa < 0) = false := by simp; omega
          have d1 : decide (1099511627776 < pa) = true := by simp [h2]
          clear h1 h2 KD HOK
          go_wp2_with fail
          go_ret
          exact ⟨by rw [EV.out, E.out]; rfl, bthen B0.out BA2.out⟩
        · have E := Lib.hid (show l.all ncOk = false by rw [KD.out, HOK.out]; simp [show ¬ 0 ≤ pk by omega])
          have d0 : decide (pa < 0) = false := by simp; omega
          have d1 : decide (1099511627776 < pa) = false := by simp; omega
          have d2 : decide (pk < 0) = true := by simp [h3]
          clear h1 h2 h3 KD HOK
          go_wp2_with fail
          go_ret
          exact ⟨by rw [EV.out, E.out]; rfl, bthen B0.out BA2.out⟩
        · have E := Lib.hid (show l.all ncOk = false by rw [KD.out, HOK.out]; simp [show ¬ pk ≤ 4294967295 by omega])
          have d0 : decide (pa < 0) = false := by simp; omega
          have d1 : decide (1099511627776 < pa) = false := by simp; omega
          have d2 : decide (pk < 0) = false := by simp; omega
          have d3 : decide (4294967295 < pk) = true := by simp [h4]
          clear h1 h2 h3 h4 KD HOK
          go_wp2_with fail
          go_ret
          exact ⟨by rw [EV.out, E.out]; rfl, bthen B0.out BA2.out⟩
        · have E := Lib.hid (show l.all ncOk = (l.drop (i + 1)).all ncOk by rw [KD.out, HOK.out]; simp [h1, h2, h3, h4])
          have d0 : decide (pa < 0) = false := by simp; omega
          have d1 : decide (1099511627776 < pa) = false := by simp; omega
          have d2 : decide (pk < 0) = false := by simp; omega
          have d3 : decide (4294967295 < pk) = false := by simp; omega
          clear h1 h2 h3 h4 KD HOK
          go_wp2_with fail
          go_roundw
          case rel => exact ⟨i + 1, by omega, by go_num, BA2, E⟩
          case measure => simp [intOf]; omega
      · obtain rfl : i = n := by omega
        have E := Lib.hid (show l.all ncOk = true by rw [HV.out, List.drop_of_length_le (by rw [HN.out]; exact Nat.le_refl _)]; rfl)
        go_wp2_with fail
        go_ret
        exact ⟨by rw [EV.out, E.out]; rfl, bthen B0.out BR.out⟩
end Go.Proofs.YtfhbpgickkibmaaGreatDoor
namespace Go.Proofs.YtfhbpgickkibmaaGreatDoor
open Go.RowKit

def hitA (u : ByteArray) (p : ByteArray × ByteArray) : Bool := p.1.toList == u.toList
/-- The first account of this name. -/
def findK (l : List (ByteArray × ByteArray)) (u : ByteArray) : Option Nat := l.findIdx? (hitA u)
def missK (l : List (ByteArray × ByteArray)) (u : ByteArray) (k : Nat) : Prop := ∀ j p, j < k → l[j]? = some p → hitA u p = false
theorem missK_zero (l : List (ByteArray × ByteArray)) (u : ByteArray) : missK l u 0 := fun _ _ h => absurd h (Nat.not_lt_zero _)
theorem missK_succ {l : List (ByteArray × ByteArray)} {u : ByteArray} {k : Nat} {p : ByteArray × ByteArray} (h : missK l u k) (hp : l[k]? = some p) (hq : hitA u p = false) : missK l u (k + 1) := fun j q hj hqj => by
  rcases Nat.lt_or_ge j k with h1 | h1
  · exact h j q h1 hqj
  · obtain rfl : j = k := by omega
    obtain rfl := Option.some.inj (hp.symm.trans hqj)
    exact hq
theorem findK_some {l : List (ByteArray × ByteArray)} {u : ByteArray} {k : Nat} {p : ByteArray × ByteArray} (h : missK l u k) (hp : l[k]? = some p) (hq : hitA u p = true) : findK l u = some k := by
  obtain ⟨h1, h2⟩ := List.getElem?_eq_some_iff.1 hp
  unfold findK
  rw [List.findIdx?_eq_some_iff_getElem]
  refine ⟨h1, by rw [h2]; exact hq, fun j hj => ?_⟩
  have := h j _ hj (List.getElem?_eq_getElem (by omega))
  simp [this]
theorem findK_none {l : List (ByteArray × ByteArray)} {u : ByteArray} (h : missK l u l.length) : findK l u = none := by
  unfold findK
  rw [List.findIdx?_eq_none_iff]
  intro p hp
  obtain ⟨j, hj⟩ := List.mem_iff_getElem?.1 hp
  exact h j p (List.getElem?_eq_some_iff.1 hj).1 hj
def secV (l : List (ByteArray × ByteArray)) : Option Nat → Value
  | none => .tuple #[.string ⟨#[]⟩, .bool false]
  | some k => .tuple #[.string (l.getD k (⟨#[]⟩, ⟨#[]⟩)).2, .bool true]
def idxV : Option Nat → Value
  | none => .int .i64 (-1)
  | some k => .int .i64 k
theorem sizeAc {a b : Value} : (Tryz.prog.info? 54).map (·.size) = some [a, b].length := show (Tryz.prog.info? 54).map (·.size) = some 2 by kernel_rfl
set_option maxRecDepth 100000 in
theorem hitw_any (a s u : ByteArray) (b : Nat) (w : World) (hb : w.cell? ⟨b, 0, none⟩ = some (.string u)) :
    Calls Tryz.prog 62 #[.agg #[.string a, .string s], .pointer (some ⟨b, 0, none⟩)] w fun e w' => e = .returned (.bool (hitA u (a, s))) ∧ Below w.heap.size w w' := by
  have R := Lib.hid (Row.new w 54 [.string a, .string s])
  have B0 := Lib.hid ((Below.refl w.heap.size w).alloc (Nat.le_refl _) (.cells #[.string a, .string s] 54))
  have c0 : (w.alloc (.cells #[.string a, .string s] 54)).cell? ⟨w.heap.size, 0, none⟩ = some (.string a) := R.out.cell 0
  have c1 : (w.alloc (.cells #[.string a, .string s] 54)).cell? ⟨b, 0, none⟩ = some (.string u) := (B0.out.cell (World.block_lt_of_cell? w _ hb)).trans hb
  clear hb
  go_enter Tryz.func62, Tryz.ntmps62
  go_wp2_with fail
  go_ret
  exact ⟨rfl, B0.out⟩
set_option maxRecDepth 100000 in
theorem indexw_any (A : Option Addr) (n c b : Nat) (l : List (ByteArray × ByteArray)) (u : ByteArray) (w : World) (hA : Rds w w.heap.size A (hds l)) (hn : l.length = n) (hN : n ≤ 16000000) (hb : w.cell? ⟨b, 0, none⟩ = some (.string u)) :
    Calls Tryz.prog 61 #[.slice A n c, .func (.func 62) #[] #[.pointer (some ⟨b, 0, none⟩)]] w fun e w' => e = .returned (idxV (findK l u)) ∧ Below w.heap.size w w' := by
  have HA := Lib.hid hA; have HN := Lib.hid hn; have HB := Lib.hid hb
  clear hA hn hb
  go_enter Tryz.func61, Tryz.ntmps61
  go_wp2_with fail
  go_loopw [8] (fun v wr => ∃ k : Nat, k ≤ n ∧ v = .int .i64 k ∧ Hid (missK l u k) ∧ Hid (Below w.heap.size w wr)) (fun v _ => n - (intOf v).toNat)
  case atStart => exact ⟨0, Nat.zero_le _, rfl, Lib.hid (missK_zero _ _), Lib.hid (Below.refl _ _)⟩
  case round =>
    obtain ⟨k, hk, rfl, HK, BR⟩ := hrel
    by_cases hlt : k < n
    · have hd : decide (k < n) = true := by simp [hlt]
      have hd2 : decide ((k : Int) < (n : Int)) = true := by simp; omega
      obtain ⟨p, hp⟩ : ∃ p, l[k]? = some p := ⟨_, List.getElem?_eq_getElem (by rw [HN.out]; exact hlt)⟩
      obtain ⟨x1, o1, rfl, hx1, hc1⟩ := HA.out (by rw [hds_len, HN.out]; omega)
      have G1 := Lib.hid (show wr.rangeAt x1 (o1 + k * 2) [.string p.1, .string p.2] from fun j v hv => (BR.out.cell (p := ⟨x1, _, none⟩) hx1).trans (Rds.range (B := 0) hc1 (k * 2) _ (hds_at hp) j v hv))
      have cb := Lib.hid (show wr.cell? ⟨b, 0, none⟩ = some (.string u) from (BR.out.cell (World.block_lt_of_cell? w _ HB.out)).trans HB.out)
      have KS := Lib.hid (fun h => missK_succ HK.out hp h)
      have KF := Lib.hid (fun h => findK_some HK.out hp h)
      clear hc1 hp HK
      obtain ⟨pa, pb⟩ := p
      dsimp only at G1
      go_wp2_with (with_reducible refine wpList_load_mid rfl 54 (.tmp 14) rfl x1 (o1 + k * 2) rfl [.string pa, .string pb] _ G1.out Tryz.underlying54 rfl sizeAc ?_)
      refine (hitw_any pa pb u b wr cb.out).mono ?_
      rintro e w' ⟨rfl, hb'⟩
      have B2 := Lib.hid (bthen BR.out hb')
      clear hb' G1 cb
      cases hq : hitA u (pa, pb) with
      | true =>
        have E := Lib.hid (KF.out hq)
        clear KS KF hq
        go_wp2_with fail
        go_ret
        exact ⟨by rw [E.out]; rfl, B2.out⟩
      | false =>
        have K2 := Lib.hid (KS.out hq)
        clear KS KF hq
        go_wp2_with fail
        go_roundw
        case rel => exact ⟨k + 1, by omega, by go_num, K2, B2⟩
        case measure => simp [intOf]; omega
    · obtain rfl : k = n := by omega
      have E := Lib.hid (findK_none (show missK l u l.length by rw [HN.out]; exact HK.out))
      go_wp2_with fail
      go_ret
      exact ⟨by rw [E.out]; rfl, BR.out⟩
/-- The first header that carries credentials of this realm. -/
def presL (l : List (ByteArray × ByteArray)) (rs : List Int) : Option Cr := l.findSome? fun h => offL (byteL h.1) (byteL h.2) rs
def presC : Option Cr → List Value
  | none => Z9
  | some c => crC c
end Go.Proofs.YtfhbpgickkibmaaGreatDoor
