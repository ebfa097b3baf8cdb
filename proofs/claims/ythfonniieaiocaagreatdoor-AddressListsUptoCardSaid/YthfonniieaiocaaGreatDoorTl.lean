/- The law AddressLists. -/
import Derived.Test.YthfonniieaiocaaGreatDoorTk
import Derived.Test.YthfonniieaiocaaGreatDoorFe
import Derived.Test.YthfonniieaiocaaGreatDoorXv
import Derived.Test.YthfonniieaiocaaGreatDoorXz
import Derived.Test.YthfonniieaiocaaGreatDoorLl
import Derived.Test.YthfonniieaiocaaGreatDoorYa
set_option linter.unusedVariables false
set_option linter.unusedSimpArgs false
namespace Go.Proofs.YthfonniieaiocaaGreatDoor
open Go.RowKit

theorem eql_int (P : Program) (T : TypeId) (k : IntKind) (z : Int) (w : World) : (binOp .eql T (.int k z) (.int k z)).run P w = .ok (.bool true) w := by
  simp [go_sem]
theorem eql_str (P : Program) (T : TypeId) (s : ByteArray) (w : World) : (binOp .eql T (.string s) (.string s)).run P w = .ok (.bool true) w := by
  simp [go_sem]
theorem eql_bool (b : Bool) (w : World) : (binOp .eql 4 (.bool b) (.bool b)).run Tryz.prog w = .ok (.bool true) w := by
  cases b <;> kernel_rfl
theorem guard_int (P : Program) (T : TypeId) (k : IntKind) (x y : Operand) (z z' : Int) (w : World) : (eqGuard .eql T x y (.int k z) (.int k z')).run P w = .ok () w := by
  simp [go_sem]
theorem guard_str (P : Program) (T : TypeId) (x y : Operand) (z z' : ByteArray) (w : World) : (eqGuard .eql T x y (.string z) (.string z')).run P w = .ok () w := by
  simp [go_sem]
theorem guard_bool (P : Program) (T : TypeId) (x y : Operand) (z z' : Bool) (w : World) : (eqGuard .eql T x y (.bool z) (.bool z')).run P w = .ok () w := by
  simp [go_sem]
def pqL : Except (Nat × Int) (List Pm) → List Pm
  | .ok l => l
  | .error _ => []
def pzL : Except (Nat × Int) (List Pm) → Int
  | .ok _ => 0
  | .error q => (q.1 : Nat)
def pkL : Except (Nat × Int) (List Pm) → Int
  | .ok _ => 0
  | .error q => q.2
theorem par_both {w w' : World} {R : Except (Nat × Int) (List Pm)} {e : Ending} (h : ParP w R e w') : ∃ A c, e = .returned (.tuple #[.slice A (pqL R).length c, .int .i64 (pzL R), .int .u8 (pkL R)]) ∧ Below w.heap.size w w' ∧ Rds w' w'.heap.size A (pms (pqL R)) ∧ (pqL R).length ≤ 16 := by
  cases R with
  | error q =>
    obtain ⟨rfl, hb, _⟩ := h
    exact ⟨none, 0, rfl, hb, fun hn => absurd hn (Nat.lt_irrefl _), Nat.zero_le _⟩
  | ok l =>
    obtain ⟨v, rfl, X, hl⟩ := h
    obtain ⟨A, c, rfl, hr⟩ := X.rdw
    exact ⟨A, c, rfl, X.bw, hr, hl⟩
theorem pql_by {X : List Int} (hX : By X) : PmBy (pqL (parsL X)) := by
  cases h : parsL X with
  | error q => exact fun p hp => by simp [pqL] at hp
  | ok l => exact fun p hp => (pars_sz hX _ 0 [] l (Nat.zero_le _) (fun p hp => by cases hp) h p hp).1
def prT : Option (List Int) → List Int
  | some s => s
  | none => []
def prK : Option (List Int) → Int
  | some _ => 0
  | none => 2
theorem pri_two {w w' : World} {R : Option (List Int)} {e : Ending} (h : PriP w R e w') : e = .returned (.tuple #[.string (strOfNums (prT R)), .int .u8 (prK R)]) ∧ Below w.heap.size w w' := by
  cases R with
  | none => exact ⟨h.2, h.1⟩
  | some s => exact ⟨h.2, h.1⟩
theorem getV_form (R : Option (List Int)) : ∃ g b, getV R = .tuple #[.string g, .bool b] := by
  cases R <;> exact ⟨_, _, rfl⟩
theorem putPL_by {l : List Pm} {nm v : List Int} (hl : PmBy l) (hn : By nm) (hv : By v) : PmBy (putPL l nm v) := by
  induction l with
  | nil =>
    intro p hp
    have : p = ⟨lowS nm, v, true⟩ := by simpa [putPL] using hp
    subst this
    exact ⟨lowS_by hn, hv⟩
  | cons q l ih =>
    have hq := hl q (by simp)
    have ih := ih fun p hp => hl p (List.mem_cons_of_mem _ hp)
    cases h : (lowS q.n == lowS nm) with
    | true =>
      rw [putPL_yes h]
      intro p hp
      rcases List.mem_cons.1 hp with rfl | hp
      · exact ⟨hq.1, hv⟩
      · exact hl p (List.mem_cons_of_mem _ hp)
    | false =>
      rw [putPL_no h]
      intro p hp
      rcases List.mem_cons.1 hp with rfl | hp
      · exact hq
      · exact ih p hp
theorem samePs_self (l : List Pm) : samePs l l = true := samePs_iff.2 rfl
def GrowsW (f : World → Value → Prop) : Prop := ∀ W W' v, Below W.heap.size W W' → f W v → f W' v
theorem growsw_eq (u : Value) : GrowsW (fun _ v => v = u) := fun _ _ _ _ h => h
theorem growsw_rds (N : Nat) (cs : List Value) : GrowsW (fun W v => ∃ B d, v = .slice B N d ∧ Rds W W.heap.size B cs) := fun _ _ _ hb ⟨B, d, h, hr⟩ => ⟨B, d, h, (hr.below hb).up hb.size⟩
theorem growsw_get {l : List (World → Value → Prop)} (hl : ∀ f ∈ l, GrowsW f) (j : Nat) : GrowsW (l.getD j (fun _ _ => True)) := by
  rw [List.getD_eq_getElem?_getD]
  cases h : l[j]? with
  | none => exact fun _ _ _ _ _ => trivial
  | some f => exact hl f (List.mem_of_getElem? h)
def LstAs (g0 : Nat) (A A1 A2 : Option Addr) (n c m c1 c2 N : Nat) (z k tk : Int) (tx gx sn sv : ByteArray) (gb : Bool) (cs : List Value) : List (World → Value → Prop) := [
  fun _ v => v = (.slice A1 m c1),
  fun _ v => v = (.slice A2 m c2),
  fun _ v => v = (.bool true),
  fun _ v => v = (.bool true),
  fun _ v => v = (.int .i64 z),
  fun _ v => v = (.int .i64 z),
  fun _ v => v = (.bool true),
  fun _ v => v = (.bool true),
  fun _ v => v = (.bool true),
  fun _ v => v = (.int .u8 k),
  fun _ v => v = (.int .u8 k),
  fun _ v => v = (.bool true),
  fun _ v => v = (.bool true),
  fun _ v => v = (.bool true),
  fun _ v => v = (.string tx),
  fun _ v => v = (.string tx),
  fun _ v => v = (.bool true),
  fun _ v => v = (.bool true),
  fun _ v => v = (.bool true),
  fun _ v => v = (.int .u8 tk),
  fun _ v => v = (.int .u8 tk),
  fun _ v => v = (.bool true),
  fun _ v => v = (.bool true),
  fun _ v => v = (.bool true),
  fun _ v => v = (.string gx),
  fun _ v => v = (.string gx),
  fun _ v => v = (.bool true),
  fun _ v => v = (.bool true),
  fun _ v => v = (.bool true),
  fun _ v => v = (.bool gb),
  fun _ v => v = (.bool gb),
  fun _ v => v = (.bool true),
  fun _ v => v = (.bool true),
  fun _ v => v = (.bool true),
  fun _ v => v = (.slice A n c),
  fun _ v => v = (.pointer (some ⟨g0, 0, none⟩)),
  fun _ v => v = (.string sn),
  fun _ v => v = (.pointer (some ⟨g0, 1, none⟩)),
  fun _ v => v = (.string sv),
  fun W v => ∃ B d, v = .slice B N d ∧ Rds W W.heap.size B cs,
  fun _ v => v = (.slice A n c),
  fun _ v => v = (.pointer (some ⟨g0, 0, none⟩)),
  fun _ v => v = (.string sn),
  fun _ v => v = (.pointer (some ⟨g0, 1, none⟩)),
  fun _ v => v = (.string sv),
  fun W v => ∃ B d, v = .slice B N d ∧ Rds W W.heap.size B cs,
  fun _ v => v = (.bool true),
  fun _ v => v = (.bool true),
  fun _ v => v = (.bool true),
  fun _ v => v = (.bool true),
  fun _ v => v = (.bool true),
  fun _ v => v = (.bool true)]
def LstA (g0 : Nat) (A A1 A2 : Option Addr) (n c m c1 c2 N : Nat) (z k tk : Int) (tx gx sn sv : ByteArray) (gb : Bool) (cs : List Value) (j : Nat) (W : World) (v : Value) : Prop := (LstAs g0 A A1 A2 n c m c1 c2 N z k tk tx gx sn sv gb cs).getD j (fun _ _ => True) W v
theorem LstA_mono {g0 : Nat} {A A1 A2 : Option Addr} {n c m c1 c2 N : Nat} {z k tk : Int} {tx gx sn sv : ByteArray} {gb : Bool} {cs : List Value} {j : Nat} {W W' : World} {v : Value} (hb : Below W.heap.size W W') (h : LstA g0 A A1 A2 n c m c1 c2 N z k tk tx gx sn sv gb cs j W v) : LstA g0 A A1 A2 n c m c1 c2 N z k tk tx gx sn sv gb cs j W' v := by
  refine growsw_get (fun f hf => ?_) j W W' v hb h
  unfold LstAs at hf
  simp only [List.mem_cons, List.not_mem_nil, or_false] at hf
  rcases hf with rfl | rfl | rfl | rfl | rfl | rfl | rfl | rfl | rfl | rfl | rfl | rfl | rfl | rfl | rfl | rfl | rfl | rfl | rfl | rfl | rfl | rfl | rfl | rfl | rfl | rfl | rfl | rfl | rfl | rfl | rfl | rfl | rfl | rfl | rfl | rfl | rfl | rfl | rfl | rfl | rfl | rfl | rfl | rfl | rfl | rfl | rfl | rfl | rfl | rfl | rfl | rfl
  all_goals first
    | exact growsw_eq _
    | exact growsw_rds _ _
set_option maxRecDepth 100000 in
set_option maxHeartbeats 8000000 in
theorem lists_any (s : ByteArray) (l : List Pm) (q : Pm) (A : Option Addr) (n c : Nat) (w : World) (hs : s.size ≤ 4000000) (hA : Rds w w.heap.size A (pms l)) (hn : l.length = n) (hl : ∀ p ∈ l, pmSz p) (hq : pmSz q) (hnil : A = none → n = 0 ∧ c = 0) (hc : n ≤ c) (hN : n ≤ 1000000) (hC : CLS w) (hG : GM w) (hP : PT w) :
    Calls Tryz.prog 15 #[.string s, .slice A n c, .agg #[.string (strOfNums q.n), .string (strOfNums q.v), .bool q.h]] w fun e w' => e = .returned (.bool true) ∧ Below w.heap.size w w' := by
  have RA := kd (fun w' (hb : Below w.heap.size w w') => show Rds w' w'.heap.size A (pms l) from (hA.below hb).up hb.size)
  have AW := kd (fun w' (h : Below w.heap.size w w') => awake_any w' (hC.below h) (hG.below h) (hP.below h))
  have P1 := kd (fun w' (hb : Below w.heap.size w w') => paramsh_any s w' hs (hG.below hb) (hP.below hb))
  have P2 := kd (fun w' (_ : Below w.heap.size w w') => rparams_any s w' hs)
  have T1 := kd (fun w' (hb : Below w.heap.size w w') => pprint_any A n c l w' (RA.out w' hb) hn hc (by omega) hl (hG.below hb) (hP.below hb))
  have T2 := kd (fun w' (hb : Below w.heap.size w w') => rpprint_any A n c l w' (RA.out w' hb) hn hc (by omega) hl)
  have G1 := kd (fun w' (hb : Below w.heap.size w w') => aget_any A n c l q.n w' (RA.out w' hb) hn hl (by omega) hq.1 hq.2.2.1)
  have G2 := kd (fun w' (hb : Below w.heap.size w w') => rget_any A n c l q.n w' (RA.out w' hb) hn hl (by omega) hq.1 hq.2.2.1)
  have S1 := kd (fun w' (hb : Below w.heap.size w w') => aset_any A n c l q.n q.v w' (RA.out w' hb) hn hl hnil hN hq.1 hq.2.2.1)
  have S2 := kd (fun w' (hb : Below w.heap.size w w') => rset_any A n c l q.n q.v w' (RA.out w' hb) hn hl hN hq.1 hq.2.2.1)
  have PBY := kd (pql_by (byteL_by s))
  have SBY := kd (putPL_by (l := l) (nm := q.n) (v := q.v) (fun p hp => ⟨(hl p hp).1, (hl p hp).2.1⟩) hq.1 hq.2.1)
  have SLN : (putPL l q.n q.v).length ≤ 16000000 := by have := putPL_len l q.n q.v; omega
  have SB := kd (fun (W : World) (B1 B2 : Option Addr) (d1 d2 : Nat) (r1 : Rds W W.heap.size B1 (pms (putPL l q.n q.v))) (r2 : Rds W W.heap.size B2 (pms (putPL l q.n q.v))) =>
    (samepms_any B1 B2 _ d1 _ d2 _ _ W r1 r2 rfl rfl SLN SLN SBY.out SBY.out).mono fun e W2 h => (show e = .returned (.bool true) ∧ Below W.heap.size W W2 from ⟨by rw [h.1, samePs_self], by obtain ⟨_, y, rfl⟩ := h; exact below_drewN _ _⟩))
  obtain ⟨gx, gb, hgv⟩ := getV_form (getL l q.n)
  rw [hgv] at G1 G2
  generalize parsL (byteL s) = R at *
  generalize ppsL l = R2 at *
  generalize pms (putPL l q.n q.v) = cs at *
  generalize (putPL l q.n q.v).length = N at *
  have RP := kd (Row.new w 56 [.string (strOfNums q.n), .string (strOfNums q.v), .bool q.h])
  have BB := kd ((Below.refl w.heap.size w).alloc (Nat.le_refl _) (.cells ([.string (strOfNums q.n), .string (strOfNums q.v), .bool q.h] : List Value).toArray 56))
  clear hA hn hl hq hnil hC hG hP SBY SLN hgv hs
  obtain ⟨qn, qv, qh⟩ := q
  dsimp only at *
  generalize strOfNums qn = sn at *
  generalize strOfNums qv = sv at *
  go_enter Tryz.func15, Tryz.ntmps15
  go_upto_region 1 with (fail)
  generalize w.alloc (.cells #[.string sn, .string sv, .bool qh] 56) = w1 at *
  generalize hg : w.heap.size = g0 at *
  rw [← hg] at BB RA AW P1 P2 T1 T2 G1 G2 S1 S2 ⊢
  by_cases h40 : 40 < n
  · have d40' : (40 : Int) < (n : Int) := by omega
    have d40 : decide ((40 : Int) < (n : Int)) = true := by simp; omega
    go_wp2_with fail
    refine (AW.out _ BB.out).mono ?_
    rintro _ wz ⟨rfl, hbz⟩
    have BZ := kd (bthen BB.out hbz)
    go_wp2_with fail
    go_ret
    exact ⟨rfl, BZ.out⟩
  have d40' : ¬ (40 : Int) < (n : Int) := by omega
  have d40 : decide ((40 : Int) < (n : Int)) = false := by simp; omega
  go_wp2_with fail
  refine (P1.out _ BB.out).mono ?_
  intro e w2 hp
  obtain ⟨A1, c1, rfl, hb, r1, l16⟩ := par_both hp
  have X1 := kd r1
  have B2 := kd (bthen BB.out hb)
  replace RP := kd (RP.out.below hb)
  clear hp hb r1 P1 BB h40 d40' d40
  go_wp2_with fail
  refine (P2.out _ B2.out).mono ?_
  intro e w3 hp
  obtain ⟨A2, c2, rfl, hb, r1, _⟩ := par_both hp
  have X2 := kd r1
  have B3 := kd (bthen B2.out hb)
  replace RP := kd (RP.out.below hb)
  replace X1 := kd ((X1.out.below hb).up hb.size)
  clear hp hb r1 P2 B2
  go_wp2_with fail
  refine (T1.out _ B3.out).mono ?_
  intro e w4 hp
  obtain ⟨rfl, hb⟩ := pri_two hp
  have B4 := kd (bthen B3.out hb)
  replace RP := kd (RP.out.below hb)
  replace X1 := kd ((X1.out.below hb).up hb.size)
  replace X2 := kd ((X2.out.below hb).up hb.size)
  clear hp hb T1 B3
  go_wp2_with fail
  refine (T2.out _ B4.out).mono ?_
  intro e w5 hp
  obtain ⟨rfl, hb⟩ := pri_two hp
  have B5 := kd (bthen B4.out hb)
  replace RP := kd (RP.out.below hb)
  replace X1 := kd ((X1.out.below hb).up hb.size)
  replace X2 := kd ((X2.out.below hb).up hb.size)
  have k0 : w5.cell? ⟨g0, 0, none⟩ = some (.string sn) := RP.out.cell 0
  clear hp hb T2 B4
  go_wp2_with fail
  refine (G1.out _ B5.out).mono ?_
  rintro e w6 ⟨rfl, hb⟩
  have B6 := kd (bthen B5.out hb)
  replace RP := kd (RP.out.below hb)
  replace X1 := kd ((X1.out.below hb).up hb.size)
  replace X2 := kd ((X2.out.below hb).up hb.size)
  have k1 : w6.cell? ⟨g0, 0, none⟩ = some (.string sn) := RP.out.cell 0
  clear hb G1 B5 k0
  go_wp2_with fail
  refine (G2.out _ B6.out).mono ?_
  rintro e w7 ⟨rfl, hb⟩
  have B7 := kd (bthen B6.out hb)
  replace RP := kd (RP.out.below hb)
  replace X1 := kd ((X1.out.below hb).up hb.size)
  replace X2 := kd ((X2.out.below hb).up hb.size)
  clear hb G2 B6 k1
  go_wp2_with fail
  have SA := kd (fun (W : World) (hb : Below w7.heap.size w7 W) => (samepms_any A1 A2 _ c1 _ c2 _ _ W ((X1.out.below hb).up hb.size) ((X2.out.below hb).up hb.size) rfl rfl (by omega) (by omega) PBY.out PBY.out).mono fun e W2 h => (show e = .returned (.bool true) ∧ Below W.heap.size W W2 from ⟨by rw [h.1, samePs_self], by obtain ⟨_, y, rfl⟩ := h; exact below_drewN _ _⟩))
  replace S1 := kd (fun (W : World) (hb : Below w7.heap.size w7 W) => S1.out W (bthen B7.out hb))
  replace S2 := kd (fun (W : World) (hb : Below w7.heap.size w7 W) => S2.out W (bthen B7.out hb))
  have AX := kd (fun (W : World) (hb : Below w7.heap.size w7 W) => AW.out W (bthen B7.out hb))
  generalize (pqL R).length = m at *
  generalize pzL R = z at *
  generalize pkL R = k at *
  generalize strOfNums (prT R2) = tx at *
  generalize prK R2 = tk at *
  clear AW PBY X1 X2
  try dsimp only [List.append]
  refine region_all (by kernel_rfl) (by kernel_rfl) (fun j W v => LstA g0 A A1 A2 n c m c1 c2 N z k tk tx gx sn sv gb cs j W v) (by kernel_rfl) (fun j v W W' hb h => LstA_mono hb h) ?hstep ?hend
  case hstep =>
    intro j o ho a' W hB hF hD
    match j, ho with
    | 0, ho =>
      obtain rfl := Option.some.inj ho
      exact (rel_free ho rfl (wp_mv1 (.tmp 7) (.inl rfl) ⟨_, rfl, Below.refl _ _, fun _ _ => (show a'.eval (.tmp 7) = .slice A1 m c1 from ((free_eval hF (by kernel_rfl)).trans rfl))⟩))
    | 1, ho =>
      obtain rfl := Option.some.inj ho
      exact (rel_free ho rfl (wp_mv1 (.tmp 10) (.inl rfl) ⟨_, rfl, Below.refl _ _, fun _ _ => (show a'.eval (.tmp 10) = .slice A2 m c2 from ((free_eval hF (by kernel_rfl)).trans rfl))⟩))
    | 2, ho =>
      obtain rfl := Option.some.inj ho
      have hx1 : a'.eval (.tmp 61) = .slice A1 m c1 := (dep_eval hD 0 (by kernel_rfl) rfl rfl)
      have hx2 : a'.eval (.tmp 62) = .slice A2 m c2 := (dep_eval hD 1 (by kernel_rfl) rfl rfl)
      exact (rel_free ho rfl (wp_call1 41 _ _ rfl #[.slice A1 m c1, .slice A2 m c2] (by simp only [List.map_toArray, List.map_cons, List.map_nil, hx1, hx2]) (enters_of Tryz.func41 (by kernel_rfl) rfl) ((SA.out W hB).mono fun e W2 ⟨he, hb⟩ => ⟨_, he, _, rfl, hb, fun _ _ => rfl⟩)))
    | 3, ho =>
      obtain rfl := Option.some.inj ho
      exact (rel_free ho rfl (wp_mv1 (.tmp 63) (.inl rfl) ⟨_, rfl, Below.refl _ _, fun _ _ => (show a'.eval (.tmp 63) = .bool true from (dep_eval hD 2 (by kernel_rfl) rfl rfl))⟩))
    | 4, ho =>
      obtain rfl := Option.some.inj ho
      exact (rel_guard (b := true) ho rfl (og := _) rfl rfl (dep_eval hD 3 (by kernel_rfl) rfl rfl) (wp_mv1 (.tmp 8) (.inl rfl) ⟨_, rfl, Below.refl _ _, fun _ _ => (show a'.eval (.tmp 8) = .int .i64 z from ((free_eval hF (by kernel_rfl)).trans rfl))⟩))
    | 5, ho =>
      obtain rfl := Option.some.inj ho
      exact (rel_guard (b := true) ho rfl (og := _) rfl rfl (dep_eval hD 3 (by kernel_rfl) rfl rfl) (wp_mv1 (.tmp 11) (.inl rfl) ⟨_, rfl, Below.refl _ _, fun _ _ => (show a'.eval (.tmp 11) = .int .i64 z from ((free_eval hF (by kernel_rfl)).trans rfl))⟩))
    | 6, ho =>
      obtain rfl := Option.some.inj ho
      have hx : a'.eval (.tmp 65) = .int .i64 z := (dep_eval hD 4 (by kernel_rfl) rfl rfl)
      have hy : a'.eval (.tmp 66) = .int .i64 z := (dep_eval hD 5 (by kernel_rfl) rfl rfl)
      exact (rel_guard (b := true) ho rfl (og := _) rfl rfl (dep_eval hD 3 (by kernel_rfl) rfl rfl) (wp_bin1 _ _ _ _ _ rfl _ _ (.bool true) hx hy (fun w => guard_int _ _ _ _ _ _ _ _) (fun w => eql_int _ _ _ _ _) ⟨_, rfl, Below.refl _ _, fun _ _ => rfl⟩))
    | 7, ho =>
      obtain rfl := Option.some.inj ho
      exact (rel_free ho rfl (wp_pick1 (.tmp 64) (.tmp 67) _ rfl (dep_eval hD 3 (by kernel_rfl) rfl rfl) ⟨_, rfl, Below.refl _ _, fun _ _ => (show a'.eval (.tmp 67) = .bool true from (dep_eval hD 6 (by kernel_rfl) rfl rfl))⟩))
    | 8, ho =>
      obtain rfl := Option.some.inj ho
      exact (rel_free ho rfl (wp_mv1 (.tmp 68) (.inl rfl) ⟨_, rfl, Below.refl _ _, fun _ _ => (show a'.eval (.tmp 68) = .bool true from (dep_eval hD 7 (by kernel_rfl) rfl rfl))⟩))
    | 9, ho =>
      obtain rfl := Option.some.inj ho
      exact (rel_guard (b := true) ho rfl (og := _) rfl rfl (dep_eval hD 8 (by kernel_rfl) rfl rfl) (wp_mv1 (.tmp 9) (.inl rfl) ⟨_, rfl, Below.refl _ _, fun _ _ => (show a'.eval (.tmp 9) = .int .u8 k from ((free_eval hF (by kernel_rfl)).trans rfl))⟩))
    | 10, ho =>
      obtain rfl := Option.some.inj ho
      exact (rel_guard (b := true) ho rfl (og := _) rfl rfl (dep_eval hD 8 (by kernel_rfl) rfl rfl) (wp_mv1 (.tmp 12) (.inl rfl) ⟨_, rfl, Below.refl _ _, fun _ _ => (show a'.eval (.tmp 12) = .int .u8 k from ((free_eval hF (by kernel_rfl)).trans rfl))⟩))
    | 11, ho =>
      obtain rfl := Option.some.inj ho
      have hx : a'.eval (.tmp 70) = .int .u8 k := (dep_eval hD 9 (by kernel_rfl) rfl rfl)
      have hy : a'.eval (.tmp 71) = .int .u8 k := (dep_eval hD 10 (by kernel_rfl) rfl rfl)
      exact (rel_guard (b := true) ho rfl (og := _) rfl rfl (dep_eval hD 8 (by kernel_rfl) rfl rfl) (wp_bin1 _ _ _ _ _ rfl _ _ (.bool true) hx hy (fun w => guard_int _ _ _ _ _ _ _ _) (fun w => eql_int _ _ _ _ _) ⟨_, rfl, Below.refl _ _, fun _ _ => rfl⟩))
    | 12, ho =>
      obtain rfl := Option.some.inj ho
      exact (rel_free ho rfl (wp_pick1 (.tmp 69) (.tmp 72) _ rfl (dep_eval hD 8 (by kernel_rfl) rfl rfl) ⟨_, rfl, Below.refl _ _, fun _ _ => (show a'.eval (.tmp 72) = .bool true from (dep_eval hD 11 (by kernel_rfl) rfl rfl))⟩))
    | 13, ho =>
      obtain rfl := Option.some.inj ho
      exact (rel_free ho rfl (wp_mv1 (.tmp 73) (.inl rfl) ⟨_, rfl, Below.refl _ _, fun _ _ => (show a'.eval (.tmp 73) = .bool true from (dep_eval hD 12 (by kernel_rfl) rfl rfl))⟩))
    | 14, ho =>
      obtain rfl := Option.some.inj ho
      exact (rel_guard (b := true) ho rfl (og := _) rfl rfl (dep_eval hD 13 (by kernel_rfl) rfl rfl) (wp_mv1 (.tmp 13) (.inl rfl) ⟨_, rfl, Below.refl _ _, fun _ _ => (show a'.eval (.tmp 13) = .string tx from ((free_eval hF (by kernel_rfl)).trans rfl))⟩))
    | 15, ho =>
      obtain rfl := Option.some.inj ho
      exact (rel_guard (b := true) ho rfl (og := _) rfl rfl (dep_eval hD 13 (by kernel_rfl) rfl rfl) (wp_mv1 (.tmp 15) (.inl rfl) ⟨_, rfl, Below.refl _ _, fun _ _ => (show a'.eval (.tmp 15) = .string tx from ((free_eval hF (by kernel_rfl)).trans rfl))⟩))
    | 16, ho =>
      obtain rfl := Option.some.inj ho
      have hx : a'.eval (.tmp 75) = .string tx := (dep_eval hD 14 (by kernel_rfl) rfl rfl)
      have hy : a'.eval (.tmp 76) = .string tx := (dep_eval hD 15 (by kernel_rfl) rfl rfl)
      exact (rel_guard (b := true) ho rfl (og := _) rfl rfl (dep_eval hD 13 (by kernel_rfl) rfl rfl) (wp_bin1 _ _ _ _ _ rfl _ _ (.bool true) hx hy (fun w => guard_str _ _ _ _ _ _ _) (fun w => eql_str _ _ _ _) ⟨_, rfl, Below.refl _ _, fun _ _ => rfl⟩))
    | 17, ho =>
      obtain rfl := Option.some.inj ho
      exact (rel_free ho rfl (wp_pick1 (.tmp 74) (.tmp 77) _ rfl (dep_eval hD 13 (by kernel_rfl) rfl rfl) ⟨_, rfl, Below.refl _ _, fun _ _ => (show a'.eval (.tmp 77) = .bool true from (dep_eval hD 16 (by kernel_rfl) rfl rfl))⟩))
    | 18, ho =>
      obtain rfl := Option.some.inj ho
      exact (rel_free ho rfl (wp_mv1 (.tmp 78) (.inl rfl) ⟨_, rfl, Below.refl _ _, fun _ _ => (show a'.eval (.tmp 78) = .bool true from (dep_eval hD 17 (by kernel_rfl) rfl rfl))⟩))
    | 19, ho =>
      obtain rfl := Option.some.inj ho
      exact (rel_guard (b := true) ho rfl (og := _) rfl rfl (dep_eval hD 18 (by kernel_rfl) rfl rfl) (wp_mv1 (.tmp 14) (.inl rfl) ⟨_, rfl, Below.refl _ _, fun _ _ => (show a'.eval (.tmp 14) = .int .u8 tk from ((free_eval hF (by kernel_rfl)).trans rfl))⟩))
    | 20, ho =>
      obtain rfl := Option.some.inj ho
      exact (rel_guard (b := true) ho rfl (og := _) rfl rfl (dep_eval hD 18 (by kernel_rfl) rfl rfl) (wp_mv1 (.tmp 16) (.inl rfl) ⟨_, rfl, Below.refl _ _, fun _ _ => (show a'.eval (.tmp 16) = .int .u8 tk from ((free_eval hF (by kernel_rfl)).trans rfl))⟩))
    | 21, ho =>
      obtain rfl := Option.some.inj ho
      have hx : a'.eval (.tmp 80) = .int .u8 tk := (dep_eval hD 19 (by kernel_rfl) rfl rfl)
      have hy : a'.eval (.tmp 81) = .int .u8 tk := (dep_eval hD 20 (by kernel_rfl) rfl rfl)
      exact (rel_guard (b := true) ho rfl (og := _) rfl rfl (dep_eval hD 18 (by kernel_rfl) rfl rfl) (wp_bin1 _ _ _ _ _ rfl _ _ (.bool true) hx hy (fun w => guard_int _ _ _ _ _ _ _ _) (fun w => eql_int _ _ _ _ _) ⟨_, rfl, Below.refl _ _, fun _ _ => rfl⟩))
    | 22, ho =>
      obtain rfl := Option.some.inj ho
      exact (rel_free ho rfl (wp_pick1 (.tmp 79) (.tmp 82) _ rfl (dep_eval hD 18 (by kernel_rfl) rfl rfl) ⟨_, rfl, Below.refl _ _, fun _ _ => (show a'.eval (.tmp 82) = .bool true from (dep_eval hD 21 (by kernel_rfl) rfl rfl))⟩))
    | 23, ho =>
      obtain rfl := Option.some.inj ho
      exact (rel_free ho rfl (wp_mv1 (.tmp 83) (.inl rfl) ⟨_, rfl, Below.refl _ _, fun _ _ => (show a'.eval (.tmp 83) = .bool true from (dep_eval hD 22 (by kernel_rfl) rfl rfl))⟩))
    | 24, ho =>
      obtain rfl := Option.some.inj ho
      exact (rel_guard (b := true) ho rfl (og := _) rfl rfl (dep_eval hD 23 (by kernel_rfl) rfl rfl) (wp_mv1 (.tmp 17) (.inl rfl) ⟨_, rfl, Below.refl _ _, fun _ _ => (show a'.eval (.tmp 17) = .string gx from ((free_eval hF (by kernel_rfl)).trans rfl))⟩))
    | 25, ho =>
      obtain rfl := Option.some.inj ho
      exact (rel_guard (b := true) ho rfl (og := _) rfl rfl (dep_eval hD 23 (by kernel_rfl) rfl rfl) (wp_mv1 (.tmp 19) (.inl rfl) ⟨_, rfl, Below.refl _ _, fun _ _ => (show a'.eval (.tmp 19) = .string gx from ((free_eval hF (by kernel_rfl)).trans rfl))⟩))
    | 26, ho =>
      obtain rfl := Option.some.inj ho
      have hx : a'.eval (.tmp 85) = .string gx := (dep_eval hD 24 (by kernel_rfl) rfl rfl)
      have hy : a'.eval (.tmp 86) = .string gx := (dep_eval hD 25 (by kernel_rfl) rfl rfl)
      exact (rel_guard (b := true) ho rfl (og := _) rfl rfl (dep_eval hD 23 (by kernel_rfl) rfl rfl) (wp_bin1 _ _ _ _ _ rfl _ _ (.bool true) hx hy (fun w => guard_str _ _ _ _ _ _ _) (fun w => eql_str _ _ _ _) ⟨_, rfl, Below.refl _ _, fun _ _ => rfl⟩))
    | 27, ho =>
      obtain rfl := Option.some.inj ho
      exact (rel_free ho rfl (wp_pick1 (.tmp 84) (.tmp 87) _ rfl (dep_eval hD 23 (by kernel_rfl) rfl rfl) ⟨_, rfl, Below.refl _ _, fun _ _ => (show a'.eval (.tmp 87) = .bool true from (dep_eval hD 26 (by kernel_rfl) rfl rfl))⟩))
    | 28, ho =>
      obtain rfl := Option.some.inj ho
      exact (rel_free ho rfl (wp_mv1 (.tmp 88) (.inl rfl) ⟨_, rfl, Below.refl _ _, fun _ _ => (show a'.eval (.tmp 88) = .bool true from (dep_eval hD 27 (by kernel_rfl) rfl rfl))⟩))
    | 29, ho =>
      obtain rfl := Option.some.inj ho
      exact (rel_guard (b := true) ho rfl (og := _) rfl rfl (dep_eval hD 28 (by kernel_rfl) rfl rfl) (wp_mv1 (.tmp 18) (.inl rfl) ⟨_, rfl, Below.refl _ _, fun _ _ => (show a'.eval (.tmp 18) = .bool gb from ((free_eval hF (by kernel_rfl)).trans rfl))⟩))
    | 30, ho =>
      obtain rfl := Option.some.inj ho
      exact (rel_guard (b := true) ho rfl (og := _) rfl rfl (dep_eval hD 28 (by kernel_rfl) rfl rfl) (wp_mv1 (.tmp 20) (.inl rfl) ⟨_, rfl, Below.refl _ _, fun _ _ => (show a'.eval (.tmp 20) = .bool gb from ((free_eval hF (by kernel_rfl)).trans rfl))⟩))
    | 31, ho =>
      obtain rfl := Option.some.inj ho
      have hx : a'.eval (.tmp 90) = .bool gb := (dep_eval hD 29 (by kernel_rfl) rfl rfl)
      have hy : a'.eval (.tmp 91) = .bool gb := (dep_eval hD 30 (by kernel_rfl) rfl rfl)
      exact (rel_guard (b := true) ho rfl (og := _) rfl rfl (dep_eval hD 28 (by kernel_rfl) rfl rfl) (wp_bin1 _ _ _ _ _ rfl _ _ (.bool true) hx hy (fun w => guard_bool _ _ _ _ _ _ _) (fun w => eql_bool _ _) ⟨_, rfl, Below.refl _ _, fun _ _ => rfl⟩))
    | 32, ho =>
      obtain rfl := Option.some.inj ho
      exact (rel_free ho rfl (wp_pick1 (.tmp 89) (.tmp 92) _ rfl (dep_eval hD 28 (by kernel_rfl) rfl rfl) ⟨_, rfl, Below.refl _ _, fun _ _ => (show a'.eval (.tmp 92) = .bool true from (dep_eval hD 31 (by kernel_rfl) rfl rfl))⟩))
    | 33, ho =>
      obtain rfl := Option.some.inj ho
      exact (rel_free ho rfl (wp_mv1 (.tmp 93) (.inl rfl) ⟨_, rfl, Below.refl _ _, fun _ _ => (show a'.eval (.tmp 93) = .bool true from (dep_eval hD 32 (by kernel_rfl) rfl rfl))⟩))
    | 34, ho =>
      obtain rfl := Option.some.inj ho
      exact (rel_guard (b := true) ho rfl (og := _) rfl rfl (dep_eval hD 33 (by kernel_rfl) rfl rfl) (wp_mv1 (.tmp 1) (.inl rfl) ⟨_, rfl, Below.refl _ _, fun _ _ => (show a'.eval (.tmp 1) = .slice A n c from ((free_eval hF (by kernel_rfl)).trans rfl))⟩))
    | 35, ho =>
      obtain rfl := Option.some.inj ho
      exact (rel_guard (b := true) ho rfl (og := _) rfl rfl (dep_eval hD 33 (by kernel_rfl) rfl rfl) (wp_fa1 56 (.tmp 5) 0 rfl g0 0 ((free_eval hF (by kernel_rfl)).trans rfl) (fun w => by kernel_rfl) ⟨_, rfl, Below.refl _ _, fun _ _ => rfl⟩))
    | 36, ho =>
      obtain rfl := Option.some.inj ho
      exact (rel_guard (b := true) ho rfl (og := _) rfl rfl (dep_eval hD 33 (by kernel_rfl) rfl rfl) (wp_ldc1 9 (.tmp 96) rfl g0 0 (.string sn) (dep_eval hD 35 (by kernel_rfl) rfl rfl) ((RP.out.below hB).cell 0) _ Tryz.underlying9 rfl ⟨_, rfl, Below.refl _ _, fun _ _ => rfl⟩))
    | 37, ho =>
      obtain rfl := Option.some.inj ho
      exact (rel_guard (b := true) ho rfl (og := _) rfl rfl (dep_eval hD 33 (by kernel_rfl) rfl rfl) (wp_fa1 56 (.tmp 5) 1 rfl g0 1 ((free_eval hF (by kernel_rfl)).trans rfl) (fun w => by kernel_rfl) ⟨_, rfl, Below.refl _ _, fun _ _ => rfl⟩))
    | 38, ho =>
      obtain rfl := Option.some.inj ho
      exact (rel_guard (b := true) ho rfl (og := _) rfl rfl (dep_eval hD 33 (by kernel_rfl) rfl rfl) (wp_ldc1 9 (.tmp 98) rfl g0 1 (.string sv) (dep_eval hD 37 (by kernel_rfl) rfl rfl) ((RP.out.below hB).cell 1) _ Tryz.underlying9 rfl ⟨_, rfl, Below.refl _ _, fun _ _ => rfl⟩))
    | 39, ho =>
      obtain rfl := Option.some.inj ho
      have hx0 : a'.eval (.tmp 95) = .slice A n c := (dep_eval hD 34 (by kernel_rfl) rfl rfl)
      have hx1 : a'.eval (.tmp 97) = .string sn := (dep_eval hD 36 (by kernel_rfl) rfl rfl)
      have hx2 : a'.eval (.tmp 99) = .string sv := (dep_eval hD 38 (by kernel_rfl) rfl rfl)
      exact (rel_guard (b := true) ho rfl (og := _) rfl rfl (dep_eval hD 33 (by kernel_rfl) rfl rfl) (wp_call1 52 _ _ rfl #[.slice A n c, .string sn, .string sv] (by simp only [List.map_toArray, List.map_cons, List.map_nil, hx0, hx1, hx2]) (enters_of Tryz.func52 (by kernel_rfl) rfl) ((S1.out W hB).mono fun e W2 ⟨v', he, X⟩ => ⟨_, he, _, rfl, X.bw, fun _ _ => X.rdw⟩)))
    | 40, ho =>
      obtain rfl := Option.some.inj ho
      exact (rel_guard (b := true) ho rfl (og := _) rfl rfl (dep_eval hD 33 (by kernel_rfl) rfl rfl) (wp_mv1 (.tmp 1) (.inl rfl) ⟨_, rfl, Below.refl _ _, fun _ _ => (show a'.eval (.tmp 1) = .slice A n c from ((free_eval hF (by kernel_rfl)).trans rfl))⟩))
    | 41, ho =>
      obtain rfl := Option.some.inj ho
      exact (rel_guard (b := true) ho rfl (og := _) rfl rfl (dep_eval hD 33 (by kernel_rfl) rfl rfl) (wp_fa1 56 (.tmp 5) 0 rfl g0 0 ((free_eval hF (by kernel_rfl)).trans rfl) (fun w => by kernel_rfl) ⟨_, rfl, Below.refl _ _, fun _ _ => rfl⟩))
    | 42, ho =>
      obtain rfl := Option.some.inj ho
      exact (rel_guard (b := true) ho rfl (og := _) rfl rfl (dep_eval hD 33 (by kernel_rfl) rfl rfl) (wp_ldc1 9 (.tmp 102) rfl g0 0 (.string sn) (dep_eval hD 41 (by kernel_rfl) rfl rfl) ((RP.out.below hB).cell 0) _ Tryz.underlying9 rfl ⟨_, rfl, Below.refl _ _, fun _ _ => rfl⟩))
    | 43, ho =>
      obtain rfl := Option.some.inj ho
      exact (rel_guard (b := true) ho rfl (og := _) rfl rfl (dep_eval hD 33 (by kernel_rfl) rfl rfl) (wp_fa1 56 (.tmp 5) 1 rfl g0 1 ((free_eval hF (by kernel_rfl)).trans rfl) (fun w => by kernel_rfl) ⟨_, rfl, Below.refl _ _, fun _ _ => rfl⟩))
    | 44, ho =>
      obtain rfl := Option.some.inj ho
      exact (rel_guard (b := true) ho rfl (og := _) rfl rfl (dep_eval hD 33 (by kernel_rfl) rfl rfl) (wp_ldc1 9 (.tmp 104) rfl g0 1 (.string sv) (dep_eval hD 43 (by kernel_rfl) rfl rfl) ((RP.out.below hB).cell 1) _ Tryz.underlying9 rfl ⟨_, rfl, Below.refl _ _, fun _ _ => rfl⟩))
    | 45, ho =>
      obtain rfl := Option.some.inj ho
      have hx0 : a'.eval (.tmp 101) = .slice A n c := (dep_eval hD 40 (by kernel_rfl) rfl rfl)
      have hx1 : a'.eval (.tmp 103) = .string sn := (dep_eval hD 42 (by kernel_rfl) rfl rfl)
      have hx2 : a'.eval (.tmp 105) = .string sv := (dep_eval hD 44 (by kernel_rfl) rfl rfl)
      exact (rel_guard (b := true) ho rfl (og := _) rfl rfl (dep_eval hD 33 (by kernel_rfl) rfl rfl) (wp_call1 53 _ _ rfl #[.slice A n c, .string sn, .string sv] (by simp only [List.map_toArray, List.map_cons, List.map_nil, hx0, hx1, hx2]) (enters_of Tryz.func53 (by kernel_rfl) rfl) ((S2.out W hB).mono fun e W2 ⟨v', he, X⟩ => ⟨_, he, _, rfl, X.bw, fun _ _ => X.rdw⟩)))
    | 46, ho =>
      obtain rfl := Option.some.inj ho
      obtain ⟨B1, d1, hx1, r1⟩ := (show ∃ B d, a'.eval (.tmp 100) = .slice B N d ∧ Rds W W.heap.size B cs from (dep_eval hD 39 (by kernel_rfl) rfl rfl))
      obtain ⟨B2, d2, hx2, r2⟩ := (show ∃ B d, a'.eval (.tmp 106) = .slice B N d ∧ Rds W W.heap.size B cs from (dep_eval hD 45 (by kernel_rfl) rfl rfl))
      exact (rel_guard (b := true) ho rfl (og := _) rfl rfl (dep_eval hD 33 (by kernel_rfl) rfl rfl) (wp_call1 41 _ _ rfl #[.slice B1 N d1, .slice B2 N d2] (by simp only [List.map_toArray, List.map_cons, List.map_nil, hx1, hx2]) (enters_of Tryz.func41 (by kernel_rfl) rfl) ((SB.out W B1 B2 d1 d2 r1 r2).mono fun e W2 ⟨he, hb⟩ => ⟨_, he, _, rfl, hb, fun _ _ => rfl⟩)))
    | 47, ho =>
      obtain rfl := Option.some.inj ho
      exact (rel_free ho rfl (wp_pick1 (.tmp 94) (.tmp 107) _ rfl (dep_eval hD 33 (by kernel_rfl) rfl rfl) ⟨_, rfl, Below.refl _ _, fun _ _ => (show a'.eval (.tmp 107) = .bool true from (dep_eval hD 46 (by kernel_rfl) rfl rfl))⟩))
    | 48, ho =>
      obtain rfl := Option.some.inj ho
      exact (rel_free ho rfl (wp_mv1 (.tmp 108) (.inl rfl) ⟨_, rfl, Below.refl _ _, fun _ _ => (show a'.eval (.tmp 108) = .bool true from (dep_eval hD 47 (by kernel_rfl) rfl rfl))⟩))
    | 49, ho =>
      obtain rfl := Option.some.inj ho
      exact (rel_guard (b := true) ho rfl (og := _) rfl rfl (dep_eval hD 48 (by kernel_rfl) rfl rfl) (wp_call1 22 _ _ rfl #[] (by simp only [List.map_toArray, List.map_nil]) (enters_of Tryz.func22 (by kernel_rfl) rfl) ((AX.out W hB).mono fun e W2 ⟨he, hb⟩ => ⟨_, he, _, rfl, hb, fun _ _ => rfl⟩)))
    | 50, ho =>
      obtain rfl := Option.some.inj ho
      exact (rel_free ho rfl (wp_pick1 (.tmp 109) (.tmp 110) _ rfl (dep_eval hD 48 (by kernel_rfl) rfl rfl) ⟨_, rfl, Below.refl _ _, fun _ _ => (show a'.eval (.tmp 110) = .bool true from (dep_eval hD 49 (by kernel_rfl) rfl rfl))⟩))
    | 51, ho =>
      obtain rfl := Option.some.inj ho
      exact (rel_free ho rfl (wp_mv1 (.tmp 111) (.inr rfl) ⟨_, rfl, Below.refl _ _, fun _ _ => (show a'.eval (.tmp 111) = .bool true from (dep_eval hD 50 (by kernel_rfl) rfl rfl))⟩))
    | j + 52, ho => exact absurd ho (by simp)
  case hend =>
    intro a' W hF hB hall
    have B9 := kd (bthen B7.out hB)
    have hv : a'.tmps.getD 6 undef = .bool true := hall 51 _ 6 rfl rfl
    have hdf : a'.defers = [] := hF.2.1.trans rfl
    clear hall hF hB
    go_wp2_with fail
    refine bodyPost_ret (results_tmp rfl _ _ _) hdf ⟨by rw [hv], B9.out⟩
end Go.Proofs.YthfonniieaiocaaGreatDoor
