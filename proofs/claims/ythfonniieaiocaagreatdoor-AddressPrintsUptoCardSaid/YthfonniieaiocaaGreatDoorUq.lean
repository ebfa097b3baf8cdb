/- Contract: address.Normal. -/
import Derived.Test.YthfonniieaiocaaGreatDoorUn
import Derived.Test.YthfonniieaiocaaGreatDoorUp
import Derived.Deep.CutBlock
import Derived.Deep.DeepCutAuto
import Derived.Test.YthfonniieaiocaaGreatDoorBr
set_option linter.unusedVariables false
set_option linter.unusedSimpArgs false
namespace Go.Proofs.YthfonniieaiocaaGreatDoor
open Go.RowKit

structure UArg (w : World) (u : Uri) (A1 A2 : Option Addr) : Prop where
  by_ : UriBy u
  n1 : u.sc.length ≤ 4000000
  n2 : u.us.length ≤ 4000000
  n3 : u.ho.length ≤ 4000000
  s1 : ∀ p ∈ u.ps, pmSz p
  s2 : ∀ p ∈ u.hs, pmSz p
  r1 : Rds w w.heap.size A1 (pms u.ps)
  r2 : Rds w w.heap.size A2 (pms u.hs)
  l1 : u.ps.length ≤ 16000000
  l2 : u.hs.length ≤ 16000000
def NormP (w : World) (R : Option Uri) (e : Ending) (w' : World) : Prop := match R with
  | none => e = .returned (.tuple #[.agg #[.string ⟨#[]⟩, .string ⟨#[]⟩, .string ⟨#[]⟩, .int .i64 0, .slice none 0 0, .slice none 0 0], .int .u8 2]) ∧ Below w.heap.size w w'
  | some n => ∃ v1 v2, e = .returned (.tuple #[.agg #[.string (strOfNums n.sc), .string (strOfNums n.us), .string (strOfNums n.ho), .int .i64 n.po, v1, v2], .int .u8 0]) ∧ VX 56 3 w v1 n.ps.length (pms n.ps) w' ∧ VX 56 3 w v2 n.hs.length (pms n.hs) w'
theorem NormP.bad {w w' : World} {R : Option Uri} (h : R = none) (hb : Below w.heap.size w w') : NormP w R (.returned (.tuple #[.agg #[.string ⟨#[]⟩, .string ⟨#[]⟩, .string ⟨#[]⟩, .int .i64 0, .slice none 0 0, .slice none 0 0], .int .u8 2])) w' := by subst h; exact ⟨rfl, hb⟩
theorem NormP.good {w w' : World} {R : Option Uri} {sc us ho : List Int} {po : Int} {ps hs : List Pm} {v1 v2 : Value} (h : R = some ⟨sc, us, ho, po, ps, hs⟩) (h1 : VX 56 3 w v1 ps.length (pms ps) w') (h2 : VX 56 3 w v2 hs.length (pms hs) w') : NormP w R (.returned (.tuple #[.agg #[.string (strOfNums sc), .string (strOfNums us), .string (strOfNums ho), .int .i64 po, v1, v2], .int .u8 0])) w' := by subst h; exact ⟨v1, v2, rfl, h1, h2⟩
theorem zeroU : (Tryz.prog.info? 32).bind (·.zero) = some (.agg ([.string ⟨#[]⟩, .string ⟨#[]⟩, .string ⟨#[]⟩, .int .i64 0, .slice none 0 0, .slice none 0 0] : List Value).toArray) := by kernel_rfl
def FineOf (u : Uri) (fn : Bool) (ho : List Int) : Prop := normL u = match fldsL u.ps 1, fldsL u.hs 2 with
  | some ps, some hs => if fn = true then some ⟨lowS u.sc, u.us, ho, u.po, ps, hs⟩ else none
  | _, _ => none
theorem fine_sip {u : Uri} (h : lowS u.sc = SIPT ∨ lowS u.sc = SIPST) : FineOf u ((((hostL u.ho).isSome && decide (0 ≤ u.po)) && decide (u.po ≤ 65535)) && clean u.us) ((hostL u.ho).getD []) := by
  unfold FineOf normL
  dsimp only
  cases fldsL u.ps 1 with
  | none => rfl
  | some ps =>
    cases fldsL u.hs 2 with
    | none => rfl
    | some hs =>
      dsimp only
      rw [if_pos h]
      cases hostL u.ho with
      | none => rfl
      | some h' =>
        dsimp only
        by_cases hp : 0 ≤ u.po ∧ u.po ≤ 65535 ∧ clean u.us = true
        · rw [if_pos hp, if_pos (by simp [hp])]; rfl
        · rw [if_neg hp, if_neg (by simp; intro a b; simpa [a, b] using hp)]
theorem fine_tel {u : Uri} (h : lowS u.sc = TELT) : FineOf u (((u.ho.isEmpty && decide (u.po = 0)) && decide (u.hs.length = 0)) && dialedL u.us) [] := by
  unfold FineOf normL
  dsimp only
  cases fldsL u.ps 1 with
  | none => rfl
  | some ps =>
    cases fldsL u.hs 2 with
    | none => rfl
    | some hs =>
      dsimp only
      rw [h, if_neg (by decide), if_pos rfl]
      by_cases hp : u.ho = [] ∧ u.po = 0 ∧ u.hs = [] ∧ dialedL u.us = true
      · rw [if_pos hp, if_pos (by simp [hp]), hp.2.1]
      · rw [if_neg hp, if_neg (by simp; intro a b c; simpa [a, b, c] using hp)]
theorem fine_no {u : Uri} (h : ¬ (lowS u.sc = SIPT ∨ lowS u.sc = SIPST)) (h2 : lowS u.sc ≠ TELT) : FineOf u false [] := by
  unfold FineOf normL
  dsimp only
  cases fldsL u.ps 1 with
  | none => rfl
  | some ps =>
    cases fldsL u.hs 2 with
    | none => rfl
    | some hs =>
      dsimp only
      rw [if_neg h, if_neg h2]; rfl
theorem vx_set2 {w0 W : World} {b : Nat} {us : List Value} {v u4 u5 : Value} {n : Nat} {cs : List Value} (X : VX 56 3 w0 v n cs W) (hr : Row W b 32 us) (hb : w0.heap.size ≤ b) : VX 56 3 w0 v n cs ((W.setCell ⟨b, 4, none⟩ u4).setCell ⟨b, 5, none⟩ u5) :=
  X.other ((X.bw.setCell hb u4).setCell hb u5) fun g hg => by
    have hne := rowT_nv hr X (by decide) g hg
    rw [Below.heap_setCell _ ⟨b, 5, none⟩ u5 g hne, Below.heap_setCell _ ⟨b, 4, none⟩ u4 g hne]
theorem vx_grown {w0 W W' : World} {b : Nat} {us : List Value} {v : Value} {n : Nat} {cs : List Value} (X : VX 56 3 w0 v n cs W) (hr : Row W b 32 us) (hb : w0.heap.size ≤ b) (hg : W.grownBy W' (some b)) : VX 56 3 w0 v n cs W' :=
  X.other (X.bw.grown hg X.bw.size (fun k hk => by cases hk; exact hb)) fun g hg2 => hg.block g (X.own_lt hg2) (fun e => rowT_nv hr X (by decide) g hg2 (Option.some.inj e))
set_option maxRecDepth 100000 in
set_option maxHeartbeats 8000000 in
theorem normal_any (u : Uri) (A1 A2 : Option Addr) (c1 c2 : Nat) (w : World) (H : UArg w u A1 A2) (hG : GM w) (hP : PT w) :
    Calls Tryz.prog 33 #[.agg #[.string (strOfNums u.sc), .string (strOfNums u.us), .string (strOfNums u.ho), .int .i64 u.po, .slice A1 u.ps.length c1, .slice A2 u.hs.length c2]] w (NormP w (normL u)) := by
  have HH := kd H; have HG := kd hG; have HP := kd hP
  have BAD := kd (fun w' h hb => NormP.bad (w := w) (w' := w') (R := normL u) h hb)
  have GOOD := kd (fun w' sc us ho po ps hs v1 v2 (h : normL u = some ⟨sc, us, ho, po, ps, hs⟩) h1 h2 => NormP.good (w := w) (w' := w') (v1 := v1) (v2 := v2) h h1 h2)
  have FN := kd (fun fn ho (h : FineOf u fn ho) => h)
  have ST := kd (show Mine w ((w.alloc (.cells ([.string (strOfNums u.sc), .string (strOfNums u.us), .string (strOfNums u.ho), .int .i64 u.po, .slice A1 u.ps.length c1, .slice A2 u.hs.length c2] : List Value).toArray 32)).alloc (.cells ([.string ⟨#[]⟩, .string ⟨#[]⟩, .string ⟨#[]⟩, .int .i64 0, .slice none 0 0, .slice none 0 0] : List Value).toArray 32)) [(w.heap.size + 1, 32, [.string ⟨#[]⟩, .string ⟨#[]⟩, .string ⟨#[]⟩, .int .i64 0, .slice none 0 0, .slice none 0 0]), (w.heap.size, 32, [.string (strOfNums u.sc), .string (strOfNums u.us), .string (strOfNums u.ho), .int .i64 u.po, .slice A1 u.ps.length c1, .slice A2 u.hs.length c2])] [(fun W => Rds W W.heap.size A2 (pms u.hs)), (fun W => Rds W W.heap.size A1 (pms u.ps))] from by
    have h := ((Mine.refl w).alloc 32 [.string (strOfNums u.sc), .string (strOfNums u.us), .string (strOfNums u.ho), .int .i64 u.po, .slice A1 u.ps.length c1, .slice A2 u.hs.length c2]).alloc 32 [.string ⟨#[]⟩, .string ⟨#[]⟩, .string ⟨#[]⟩, .int .i64 0, .slice none 0 0, .slice none 0 0]
    rw [World.size_alloc] at h
    have h0 : ∀ A cs, Rds w w.heap.size A cs → Stab [(w.heap.size + 1, 32, [.string ⟨#[]⟩, .string ⟨#[]⟩, .string ⟨#[]⟩, .int .i64 0, .slice none 0 0, .slice none 0 0]), (w.heap.size, 32, [.string (strOfNums u.sc), .string (strOfNums u.us), .string (strOfNums u.ho), .int .i64 u.po, .slice A1 u.ps.length c1, .slice A2 u.hs.length c2])] ((w.alloc (.cells ([.string (strOfNums u.sc), .string (strOfNums u.us), .string (strOfNums u.ho), .int .i64 u.po, .slice A1 u.ps.length c1, .slice A2 u.hs.length c2] : List Value).toArray 32)).alloc (.cells ([.string ⟨#[]⟩, .string ⟨#[]⟩, .string ⟨#[]⟩, .int .i64 0, .slice none 0 0, .slice none 0 0] : List Value).toArray 32)) (fun W => Rds W W.heap.size A cs) := fun A cs hR => by
      have hb : Below w.heap.size w ((w.alloc (.cells ([.string (strOfNums u.sc), .string (strOfNums u.us), .string (strOfNums u.ho), .int .i64 u.po, .slice A1 u.ps.length c1, .slice A2 u.hs.length c2] : List Value).toArray 32)).alloc (.cells ([.string ⟨#[]⟩, .string ⟨#[]⟩, .string ⟨#[]⟩, .int .i64 0, .slice none 0 0, .slice none 0 0] : List Value).toArray 32)) := h.bw
      by_cases hn : 0 < cs.length
      · obtain ⟨x, o, e, hx, hc⟩ := hR hn
        refine stab_rds ((hR.below hb).up hb.size) fun b o' s' e2 hm => ?_
        rw [e] at e2
        injection e2 with e2
        injection e2 with e2
        subst e2
        simp only [List.map_cons, List.map_nil, List.mem_cons, List.not_mem_nil, or_false] at hm
        omega
      · intro W _ h2; exact absurd h2 hn
    exact (h.add (h0 A1 _ H.r1)).add (h0 A2 _ H.r2))
  have LW := kd (fun w => adlower_any (strOfNums u.sc) w (by rw [num_size]; exact H.n1))
  rw [byteL_str H.by_.sc] at LW
  have HSB := kd (lowS_by H.by_.sc)
  obtain ⟨sc, hsc⟩ : ∃ sc, lowS u.sc = sc := ⟨_, rfl⟩
  rw [hsc] at LW HSB
  have ESC := kd hsc
  clear hsc H hG hP
  have HO := kd (fun w hg hp => adhost_any (strOfNums u.ho) w (by rw [num_size]; exact HH.out.n3) hg hp)
  rw [byteL_str HH.out.by_.ho] at HO
  have CU := kd (fun w => adclean_any (strOfNums u.us) w (by rw [num_size]; exact HH.out.n2))
  rw [byteL_str HH.out.by_.us] at CU
  have DU := kd (fun w => dialed_any (strOfNums u.us) w (by rw [num_size]; exact HH.out.n2))
  rw [byteL_str HH.out.by_.us] at DU
  have EH := kd (empty_beq u.ho)
  have F1 := kd (fun W (h : Rds W W.heap.size A1 (pms u.ps)) => fields_any A1 u.ps.length c1 u.ps 1 W h rfl HH.out.l1 HH.out.s1 (.inl rfl))
  have F2 := kd (fun W (h : Rds W W.heap.size A2 (pms u.hs)) => fields_any A2 u.hs.length c2 u.hs 2 W h rfl HH.out.l2 HH.out.s2 (.inr rfl))
  clear HH
  generalize hPP : NormP w (normL u) = PP at *
  clear hPP
  go_enter Tryz.func33, Tryz.ntmps33
  go_upto_region 1 with (fail)
  generalize (w.alloc (.cells #[.string (strOfNums u.sc), .string (strOfNums u.us), .string (strOfNums u.ho), .int .i64 u.po, .slice A1 u.ps.length c1, .slice A2 u.hs.length c2] 32)).alloc (.cells #[.string ⟨#[]⟩, .string ⟨#[]⟩, .string ⟨#[]⟩, .int .i64 0, .slice none 0 0, .slice none 0 0] 32) = w1 at *
  obtain ⟨b1, hb1⟩ : ∃ b, b = w.heap.size := ⟨_, rfl⟩
  obtain ⟨b2, hb2⟩ : ∃ b, b = w.heap.size + 1 := ⟨_, rfl⟩
  rw [← hb2, ← hb1] at ST
  try rw [← hb2]
  try rw [← hb1]
  clear hb1 hb2
  refine region_put (by kernel_rfl) (by kernel_rfl) (fun j W v => v = ([.pointer (some ⟨b1, 0, none⟩), .string (strOfNums u.sc), .string (strOfNums sc), .pointer (some ⟨b1, 1, none⟩), .string (strOfNums u.us), .pointer (some ⟨b1, 3, none⟩), .int .i64 u.po, .agg #[.string (strOfNums sc), .string (strOfNums u.us), .string ⟨#[]⟩, .int .i64 u.po, .slice none 0 0, .slice none 0 0], undef, undef] : List Value).getD j undef) 8 9 7 4 17 32 32 [.string ⟨#[]⟩, .string ⟨#[]⟩, .string ⟨#[]⟩, .int .i64 0, .slice none 0 0, .slice none 0 0] (by kernel_rfl) (by kernel_rfl) _ _ _ rfl rfl ?halloc rfl rfl rfl rfl rfl (by kernel_rfl) (by kernel_rfl) (by decide) (by decide) (sizeU _ _ _ _ _ _)
    (fun W v h => ⟨[.string (strOfNums sc), .string (strOfNums u.us), .string ⟨#[]⟩, .int .i64 u.po, .slice none 0 0, .slice none 0 0], h, rfl, u_one _ _ _ _⟩) (fun _ _ _ _ _ h => h) (fun _ _ _ _ _ _ _ _ h => h) ?hstep ?hend
  case halloc => exact fun W ev => exec_alloc rfl zeroU
  case hstep =>
    intro j o h1 h2 ho a' W hB hF hD
    have RA := (ST.out.row (i := 1) rfl).below hB
    match j, ho with
    | 0, ho =>
      obtain rfl := Option.some.inj ho
      exact wp_fa1 32 (.tmp 1) 0 rfl b1 0 ((free_eval hF (by kernel_rfl)).trans rfl) (fun w => by kernel_rfl) ⟨_, rfl, Below.refl _ _, rfl⟩
    | 1, ho =>
      obtain rfl := Option.some.inj ho
      exact wp_ldc1 9 (.tmp 10) rfl b1 0 (.string (strOfNums u.sc)) (dep_eval hD 0 (by kernel_rfl) rfl rfl) (RA.cell 0) _ Tryz.underlying9 rfl ⟨_, rfl, Below.refl _ _, rfl⟩
    | 2, ho =>
      obtain rfl := Option.some.inj ho
      have hx : a'.eval (.tmp 11) = .string (strOfNums u.sc) := dep_eval hD 1 (by kernel_rfl) rfl rfl
      refine wp_call1 60 _ _ rfl #[.string (strOfNums u.sc)] (by simp only [List.map_toArray, List.map_cons, List.map_nil, hx]) (enters_of Tryz.func60 (by kernel_rfl) rfl) ((LW.out W).mono ?_)
      rintro e W2 ⟨rfl, hb⟩
      exact ⟨_, rfl, _, rfl, hb, rfl⟩
    | 3, ho =>
      obtain rfl := Option.some.inj ho
      exact wp_fa1 32 (.tmp 1) 1 rfl b1 1 ((free_eval hF (by kernel_rfl)).trans rfl) (fun w => by kernel_rfl) ⟨_, rfl, Below.refl _ _, rfl⟩
    | 4, ho =>
      obtain rfl := Option.some.inj ho
      exact wp_ldc1 9 (.tmp 13) rfl b1 1 (.string (strOfNums u.us)) (dep_eval hD 3 (by kernel_rfl) rfl rfl) (RA.cell 1) _ Tryz.underlying9 rfl ⟨_, rfl, Below.refl _ _, rfl⟩
    | 5, ho =>
      obtain rfl := Option.some.inj ho
      exact wp_fa1 32 (.tmp 1) 3 rfl b1 3 ((free_eval hF (by kernel_rfl)).trans rfl) (fun w => by kernel_rfl) ⟨_, rfl, Below.refl _ _, rfl⟩
    | 6, ho =>
      obtain rfl := Option.some.inj ho
      exact wp_ldc1 3 (.tmp 15) rfl b1 3 (.int .i64 u.po) (dep_eval hD 5 (by kernel_rfl) rfl rfl) (RA.cell 3) _ Tryz.underlying3 rfl ⟨_, rfl, Below.refl _ _, rfl⟩
    | 7, ho =>
      obtain rfl := Option.some.inj ho
      have hx1 : a'.eval (.tmp 12) = .string (strOfNums sc) := dep_eval hD 2 (by kernel_rfl) rfl rfl
      have hx2 : a'.eval (.tmp 14) = .string (strOfNums u.us) := dep_eval hD 4 (by kernel_rfl) rfl rfl
      have hx3 : a'.eval (.tmp 16) = .int .i64 u.po := dep_eval hD 6 (by kernel_rfl) rfl rfl
      exact wp_build1 32 _ rfl [(0, .string (strOfNums sc)), (1, .string (strOfNums u.us)), (3, .int .i64 u.po)] (by simp only [List.map_toArray, List.map_cons, List.map_nil, hx1, hx2, hx3]) #[.string (strOfNums sc), .string (strOfNums u.us), .string ⟨#[]⟩, .int .i64 u.po, .slice none 0 0, .slice none 0 0] (by kernel_rfl) ⟨_, rfl, Below.refl _ _, rfl⟩
    | 8, ho => exact absurd rfl h1
    | 9, ho => exact absurd rfl h2
    | j + 10, ho => simp at ho
  case hend =>
  intro vs W b us hB hlen hv hb h8 h7 hR
  obtain ⟨v0, v1, v2, v3, v4, v5, v6, v7, v8, v9, rfl⟩ : ∃ v0 v1 v2 v3 v4 v5 v6 v7 v8 v9, vs = [v0, v1, v2, v3, v4, v5, v6, v7, v8, v9] := by
    match vs, hlen with
    | [v0, v1, v2, v3, v4, v5, v6, v7, v8, v9], _ => exact ⟨_, _, _, _, _, _, _, _, _, _, rfl⟩
  obtain rfl : v0 = .pointer (some ⟨b1, 0, none⟩) := hv 0 _ _ v0 (by decide) rfl rfl rfl
  obtain rfl : v1 = .string (strOfNums u.sc) := hv 1 _ _ v1 (by decide) rfl rfl rfl
  obtain rfl : v2 = .string (strOfNums sc) := hv 2 _ _ v2 (by decide) rfl rfl rfl
  obtain rfl : v3 = .pointer (some ⟨b1, 1, none⟩) := hv 3 _ _ v3 (by decide) rfl rfl rfl
  obtain rfl : v4 = .string (strOfNums u.us) := hv 4 _ _ v4 (by decide) rfl rfl rfl
  obtain rfl : v5 = .pointer (some ⟨b1, 3, none⟩) := hv 5 _ _ v5 (by decide) rfl rfl rfl
  obtain rfl : v6 = .int .i64 u.po := hv 6 _ _ v6 (by decide) rfl rfl rfl
  obtain rfl : v7 = .agg #[.string (strOfNums sc), .string (strOfNums u.us), .string ⟨#[]⟩, .int .i64 u.po, .slice none 0 0, .slice none 0 0] := hv 7 _ _ v7 (by decide) rfl rfl rfl
  obtain rfl : v8 = .pointer (some ⟨b, 0, none⟩) := Option.some.inj h8
  obtain rfl : us = [.string (strOfNums sc), .string (strOfNums u.us), .string ⟨#[]⟩, .int .i64 u.po, .slice none 0 0, .slice none 0 0] := by
    have e := Option.some.inj h7
    injection e with e
    simpa using (congrArg Array.toList e).symm
  replace ST := kd (show Mine w W [(b, 32, [.string (strOfNums sc), .string (strOfNums u.us), .string (strOfNums []), .int .i64 u.po, .slice none 0 0, .slice none 0 0]), (b2, 32, [.string ⟨#[]⟩, .string ⟨#[]⟩, .string ⟨#[]⟩, .int .i64 0, .slice none 0 0, .slice none 0 0]), (b1, 32, [.string (strOfNums u.sc), .string (strOfNums u.us), .string (strOfNums u.ho), .int .i64 u.po, .slice A1 u.ps.length c1, .slice A2 u.hs.length c2])] [(fun W => Rds W W.heap.size A2 (pms u.hs)), (fun W => Rds W W.heap.size A1 (pms u.ps))] from ST.out.join hB hb hR)
  clear hv hlen h8 h7 hb hB hR LW
  simp only [putL, Act.put, List.setIfInBounds_toArray, List.set_cons_zero, List.set_cons_succ]
  clear FN
  have Q1 := lit_beq HSB.out [115, 105, 112]
  have Q2 := lit_beq HSB.out [115, 105, 112, 115]
  have Q3 := lit_beq HSB.out [116, 101, 108]
  rw [show bl [115, 105, 112] = SIPT from rfl] at Q1
  rw [show bl [115, 105, 112, 115] = SIPST from rfl] at Q2
  rw [show bl [116, 101, 108] = TELT from rfl] at Q3
  have HQ1 := kd Q1; have HQ2 := kd Q2; have HQ3 := kd Q3
  have HEH := kd EH.out
  clear Q1 Q2 Q3 HSB
  have c0 : W.cell? ⟨b, 0, none⟩ = some (.string (strOfNums sc)) := (ST.out.row (i := 0) rfl).cell 0
  go_upto_block 0 with (fail)
  go_cut [5] (fun v5 wx => ∃ (fn : Bool) (ho : List Int), v5 = .bool fn ∧ Hid (FineOf u fn ho) ∧ Hid (Mine w wx [(b, 32, [.string (strOfNums sc), .string (strOfNums u.us), .string (strOfNums ho), .int .i64 u.po, .slice none 0 0, .slice none 0 0]), (b2, 32, [.string ⟨#[]⟩, .string ⟨#[]⟩, .string ⟨#[]⟩, .int .i64 0, .slice none 0 0, .slice none 0 0]), (b1, 32, [.string (strOfNums u.sc), .string (strOfNums u.us), .string (strOfNums u.ho), .int .i64 u.po, .slice A1 u.ps.length c1, .slice A2 u.hs.length c2])] [(fun W => Rds W W.heap.size A2 (pms u.hs)), (fun W => Rds W W.heap.size A1 (pms u.ps))]))
  case first =>
    go_upto_if 20 with (fail)
    go_cut [20] (fun v wx => v = .bool (decide (sc = SIPT ∨ sc = SIPST)) ∧ wx = W)
    case first =>
      by_cases h1 : sc = SIPT
      · have q1 : ((strOfNums sc).toList == [115, 105, 112]) = true := HQ1.out.trans (by rw [h1]; rfl)
        rw [q1]
        have d1 := kd (decide_eq_true (p := sc = SIPT ∨ sc = SIPST) (.inl h1))
        clear h1
        go_wp2_with fail
        go_meet
        exact ⟨congrArg Value.bool d1.out.symm, rfl⟩
      · have q1 : ((strOfNums sc).toList == [115, 105, 112]) = false := HQ1.out.trans (by simpa using fun e => h1 e.symm)
        rw [q1]
        by_cases h2 : sc = SIPST
        · have q2 : ((strOfNums sc).toList == [115, 105, 112, 115]) = true := HQ2.out.trans (by rw [h2]; rfl)
          have d1 := kd (decide_eq_true (p := sc = SIPT ∨ sc = SIPST) (.inr h2))
          clear h1 h2
          go_wp2_with fail
          go_meet
          exact ⟨congrArg Value.bool d1.out.symm, rfl⟩
        · have q2 : ((strOfNums sc).toList == [115, 105, 112, 115]) = false := HQ2.out.trans (by simpa using fun e => h2 e.symm)
          have d1 := kd (decide_eq_false (p := sc = SIPT ∨ sc = SIPST) (by rintro (h | h); exact h1 h; exact h2 h))
          clear h1 h2
          go_wp2_with fail
          go_meet
          exact ⟨congrArg Value.bool d1.out.symm, rfl⟩
    case rest =>
      first | (rename_i KK hKK; obtain ⟨rfl, rfl⟩ := hcut; refine hKK _ _ ?_; clear hKK KK) | obtain ⟨rfl, rfl⟩ := hcut
      by_cases hsip : sc = SIPT ∨ sc = SIPST
      · rw [decide_eq_true hsip]
        have FI := fine_sip (u := u) (by rw [ESC.out]; exact hsip)
        have HO2 := kd (HO.out _ (HG.out.below ST.out.bw) (HP.out.below ST.out.bw))
        have k2 := (ST.out.row (i := 2) rfl).cell 2
        simp only [List.getElem?_cons_succ, List.getElem?_cons_zero] at k2
        clear hsip HO HG HP HQ1 HQ2 HQ3 c0 DU
        go_wp2_with fail
        refine HO2.out.mono ?_
        rintro _ w3 ⟨rfl, hb3⟩
        replace ST := kd (ST.out.call hb3)
        clear hb3 HO2 k2
        have f2 := (ST.out.row (i := 0) rfl).frozen 2
        have k2 := (ST.out.row (i := 0) rfl).cell 2
        simp only [List.getElem?_cons_succ, List.getElem?_cons_zero] at k2
        cases hX : hostL u.ho with
        | none =>
          rw [hX] at FI
          have FQ := kd (show FineOf u false [] by simpa using FI)
          rw [show hostV none = .tuple #[.string ⟨#[]⟩, .bool false] from rfl]
          replace ST := kd (show Mine w _ [(b, 32, [.string (strOfNums sc), .string (strOfNums u.us), .string (strOfNums []), .int .i64 u.po, .slice none 0 0, .slice none 0 0]), (b2, 32, [.string ⟨#[]⟩, .string ⟨#[]⟩, .string ⟨#[]⟩, .int .i64 0, .slice none 0 0, .slice none 0 0]), (b1, 32, [.string (strOfNums u.sc), .string (strOfNums u.us), .string (strOfNums u.ho), .int .i64 u.po, .slice A1 u.ps.length c1, .slice A2 u.hs.length c2])] [(fun W => Rds W W.heap.size A2 (pms u.hs)), (fun W => Rds W W.heap.size A1 (pms u.ps))] from ST.out.setCell (i := 0) (off := 2) (.string ⟨#[]⟩) rfl rfl)
          clear FI hX
          go_wp2_with fail
          go_meet
          exact ⟨false, [], rfl, FQ, ST⟩
        | some h =>
          rw [hX] at FI
          rw [show hostV (some h) = .tuple #[.string (strOfNums h), .bool true] from rfl]
          go_upto_region 7 with (fail)
          replace ST := kd (show Mine w _ [(b, 32, [.string (strOfNums sc), .string (strOfNums u.us), .string (strOfNums h), .int .i64 u.po, .slice none 0 0, .slice none 0 0]), (b2, 32, [.string ⟨#[]⟩, .string ⟨#[]⟩, .string ⟨#[]⟩, .int .i64 0, .slice none 0 0, .slice none 0 0]), (b1, 32, [.string (strOfNums u.sc), .string (strOfNums u.us), .string (strOfNums u.ho), .int .i64 u.po, .slice A1 u.ps.length c1, .slice A2 u.hs.length c2])] [(fun W => Rds W W.heap.size A2 (pms u.hs)), (fun W => Rds W W.heap.size A1 (pms u.ps))] from ST.out.setCell (i := 0) (off := 2) (.string (strOfNums h)) rfl rfl)
          clear f2 k2 hX
          generalize w3.setCell ⟨b, 2, none⟩ (.string (strOfNums h)) = w4 at *
          have k3 := (ST.out.row (i := 2) rfl).cell 3
          have k1 := (ST.out.row (i := 2) rfl).cell 1
          simp only [List.getElem?_cons_succ, List.getElem?_cons_zero] at k1 k3
          by_cases p0 : 0 ≤ u.po
          · have d0 : decide (0 ≤ u.po) = true := by simp [p0]
            by_cases p1 : u.po ≤ 65535
            · have d1 : decide (u.po ≤ 65535) = true := by simp [p1]
              have FQ := kd (show FineOf u (clean u.us) h by rw [d0, d1] at FI; simpa using FI)
              clear FI p0 p1
              go_wp2_with fail
              refine (CU.out _).mono ?_
              rintro _ _ ⟨rfl, rfl⟩
              go_wp2_with fail
              go_meet
              exact ⟨clean u.us, h, rfl, FQ, ST⟩
            · have d1 : decide (u.po ≤ 65535) = false := by simp; omega
              have FQ := kd (show FineOf u false h by rw [d1] at FI; simpa using FI)
              clear FI p0 p1
              go_wp2_with fail
              go_meet
              exact ⟨false, h, rfl, FQ, ST⟩
          · have d0 : decide (0 ≤ u.po) = false := by simp; omega
            have FQ := kd (show FineOf u false h by rw [d0] at FI; simpa using FI)
            clear FI p0
            go_wp2_with fail
            go_meet
            exact ⟨false, h, rfl, FQ, ST⟩
      · rw [decide_eq_false hsip]
        have hns : ¬ (lowS u.sc = SIPT ∨ lowS u.sc = SIPST) := by rw [ESC.out]; exact hsip
        clear hsip HO HG HP HQ1 HQ2 c0 CU
        by_cases htel : sc = TELT
        · have q3 : ((strOfNums sc).toList == [116, 101, 108]) = true := HQ3.out.trans (by rw [htel]; rfl)
          have FI := fine_tel (u := u) (by rw [ESC.out]; exact htel)
          clear htel hns
          have k1 := (ST.out.row (i := 2) rfl).cell 1
          have k2 := (ST.out.row (i := 2) rfl).cell 2
          have k3 := (ST.out.row (i := 2) rfl).cell 3
          have k5 := (ST.out.row (i := 2) rfl).cell 5
          simp only [List.getElem?_cons_succ, List.getElem?_cons_zero] at k1 k2 k3 k5
          cases hE : u.ho.isEmpty with
          | false =>
            have q4 : ((strOfNums u.ho).toList == []) = false := HEH.out.trans hE
            have FQ := kd (show FineOf u false [] by rw [hE] at FI; simpa using FI)
            clear FI hE
            go_wp2_with fail
            go_meet
            exact ⟨false, [], rfl, FQ, ST⟩
          | true =>
            have q4 : ((strOfNums u.ho).toList == []) = true := HEH.out.trans hE
            by_cases p0 : u.po = 0
            · have d0 : (u.po == 0) = true := by simp [p0]
              by_cases p1 : u.hs.length = 0
              · have d1 : ((u.hs.length : Int) == 0) = true := by simp [p1]
                have FQ := kd (show FineOf u (dialedL u.us) [] by rw [hE, decide_eq_true p0, decide_eq_true p1] at FI; simpa using FI)
                clear FI p0 p1 hE
                go_wp2_with fail
                refine (DU.out _).mono ?_
                rintro _ _ ⟨rfl, rfl⟩
                go_wp2_with fail
                go_meet
                exact ⟨dialedL u.us, [], rfl, FQ, ST⟩
              · have d1 : ((u.hs.length : Int) == 0) = false := by simpa using p1
                have FQ := kd (show FineOf u false [] by rw [decide_eq_false p1] at FI; simpa using FI)
                clear FI p0 p1 hE
                go_wp2_with fail
                go_meet
                exact ⟨false, [], rfl, FQ, ST⟩
            · have d0 : (u.po == 0) = false := by simpa using p0
              have FQ := kd (show FineOf u false [] by rw [decide_eq_false p0] at FI; simpa using FI)
              clear FI p0 hE
              go_wp2_with fail
              go_meet
              exact ⟨false, [], rfl, FQ, ST⟩
        · have q3 : ((strOfNums sc).toList == [116, 101, 108]) = false := HQ3.out.trans (by simpa using fun e => htel e.symm)
          have FQ := kd (fine_no (u := u) hns (by rw [ESC.out]; exact htel))
          clear htel hns
          go_wp2_with fail
          go_meet
          exact ⟨false, [], rfl, FQ, ST⟩
  case rest =>
  first | (rename_i KK hKK; obtain ⟨fn, ho, rfl, FO, M⟩ := hcut; refine hKK _ _ ?_; clear hKK KK) | obtain ⟨fn, ho, rfl, FO, M⟩ := hcut
  clear ST HO CU DU HQ1 HQ2 HQ3 HEH EH c0 HG HP
  have FO2 := kd (show normL u = match fldsL u.ps 1, fldsL u.hs 2 with
    | some ps, some hs => if fn = true then some ⟨sc, u.us, ho, u.po, ps, hs⟩ else none
    | _, _ => none by rw [← ESC.out]; exact FO.out)
  clear FO ESC
  have F1b := kd (F1.out wc (M.out.fact (i := 1) rfl))
  have k4 := (M.out.row (i := 2) rfl).cell 4
  simp only [List.getElem?_cons_succ, List.getElem?_cons_zero] at k4
  generalize fldsL u.ps 1 = R1 at *
  generalize fldsL u.hs 2 = R2 at *
  go_wp2_with fail
  refine F1b.out.mono ?_
  clear F1 F1b
  intro e5 w5 hF5
  have hb5 : Below wc.heap.size wc w5 := by
    cases R1 with
    | none => exact hF5.2
    | some m => obtain ⟨_, _, h⟩ := hF5; exact h.bw
  have M5 := kd (M.out.call hb5)
  have HB5 := kd hb5
  have F2b := kd (F2.out w5 (M5.out.fact (i := 0) rfl))
  have k5 := (M5.out.row (i := 2) rfl).cell 5
  simp only [List.getElem?_cons_succ, List.getElem?_cons_zero] at k5
  clear F2 k4 hb5
  cases R1 with
  | none =>
    obtain ⟨rfl, _⟩ := hF5
    clear HB5
    replace M := M5
    clear M5
    replace FO2 := kd (show normL u = none by rw [FO2.out])
    go_wp2_with fail
    refine F2b.out.mono ?_
    intro e6 w6 hF6
    cases R2 with
    | none =>
      obtain ⟨rfl, hb6⟩ := hF6
      replace M := kd (M.out.call hb6)
      clear F2b k5 hb6
      cases fn
      all_goals
        have E := kd (show normL u = none by rw [FO2.out])
        have RR := kd (M.out.row (i := 1) rfl)
        have MB := kd M.out.bw
        have GE2 := kd (M.out.ge (i := 1) rfl)
        clear FO2
        go_wp2_with (with_reducible refine wpList_storeG rfl 32 (.tmp 2) (.tmp 89) rfl RR.out [.string ⟨#[]⟩, .string ⟨#[]⟩, .string ⟨#[]⟩, .int .i64 0, .slice none 0 0, .slice none 0 0] rfl rfl (lenU _ _ _ _ _ _ _ _ _ _ _ _) (sizeU _ _ _ _ _ _) (u_one _ _ _ _) ?_)
        intro w9 R9 G9
        have BW9 := kd (MB.out.grown G9.out MB.out.size (fun k hk => by cases hk; exact GE2.out))
        go_wp2_with fail
        exact bodyPost_ret (results_ct rfl _ _ _ b2 [.string ⟨#[]⟩, .string ⟨#[]⟩, .string ⟨#[]⟩, .int .i64 0, .slice none 0 0, .slice none 0 0] _ rfl R9.out.range Tryz.underlying32 rfl (sizeU _ _ _ _ _ _)) rfl (by exact BAD.out _ E.out BW9.out)

    | some m2 =>
      obtain ⟨v6, rfl, hx6⟩ := hF6
      replace M := kd (M.out.call hx6.bw)
      clear F2b k5 hx6
      cases fn
      all_goals
        have E := kd (show normL u = none by rw [FO2.out])
        have RR := kd (M.out.row (i := 1) rfl)
        have MB := kd M.out.bw
        have GE2 := kd (M.out.ge (i := 1) rfl)
        clear FO2
        go_wp2_with (with_reducible refine wpList_storeG rfl 32 (.tmp 2) (.tmp 89) rfl RR.out [.string ⟨#[]⟩, .string ⟨#[]⟩, .string ⟨#[]⟩, .int .i64 0, .slice none 0 0, .slice none 0 0] rfl rfl (lenU _ _ _ _ _ _ _ _ _ _ _ _) (sizeU _ _ _ _ _ _) (u_one _ _ _ _) ?_)
        intro w9 R9 G9
        have BW9 := kd (MB.out.grown G9.out MB.out.size (fun k hk => by cases hk; exact GE2.out))
        go_wp2_with fail
        exact bodyPost_ret (results_ct rfl _ _ _ b2 [.string ⟨#[]⟩, .string ⟨#[]⟩, .string ⟨#[]⟩, .int .i64 0, .slice none 0 0, .slice none 0 0] _ rfl R9.out.range Tryz.underlying32 rfl (sizeU _ _ _ _ _ _)) rfl (by exact BAD.out _ E.out BW9.out)

  | some m1 =>
    obtain ⟨v5, rfl, hx5⟩ := hF5
    have X5 := kd (hx5.base M.out.bw)
    clear hx5 HB5
    replace M := M5
    clear M5
    go_wp2_with fail
    refine F2b.out.mono ?_
    intro e6 w6 hF6
    cases R2 with
    | none =>
      obtain ⟨rfl, hb6⟩ := hF6
      replace M := kd (M.out.call hb6)
      replace FO2 := kd (show normL u = none by rw [FO2.out])
      clear F2b k5 hb6 X5
      cases fn
      all_goals
        have E := kd (show normL u = none by rw [FO2.out])
        have RR := kd (M.out.row (i := 1) rfl)
        have MB := kd M.out.bw
        have GE2 := kd (M.out.ge (i := 1) rfl)
        clear FO2
        go_wp2_with (with_reducible refine wpList_storeG rfl 32 (.tmp 2) (.tmp 89) rfl RR.out [.string ⟨#[]⟩, .string ⟨#[]⟩, .string ⟨#[]⟩, .int .i64 0, .slice none 0 0, .slice none 0 0] rfl rfl (lenU _ _ _ _ _ _ _ _ _ _ _ _) (sizeU _ _ _ _ _ _) (u_one _ _ _ _) ?_)
        intro w9 R9 G9
        have BW9 := kd (MB.out.grown G9.out MB.out.size (fun k hk => by cases hk; exact GE2.out))
        go_wp2_with fail
        exact bodyPost_ret (results_ct rfl _ _ _ b2 [.string ⟨#[]⟩, .string ⟨#[]⟩, .string ⟨#[]⟩, .int .i64 0, .slice none 0 0, .slice none 0 0] _ rfl R9.out.range Tryz.underlying32 rfl (sizeU _ _ _ _ _ _)) rfl (by exact BAD.out _ E.out BW9.out)

    | some m2 =>
      obtain ⟨v6, rfl, hx6⟩ := hF6
      have X6 := kd (hx6.base M.out.bw)
      replace X5 := kd (X5.out.step hx6.bw)
      replace M := kd (M.out.call hx6.bw)
      clear F2b k5 hx6
      cases fn with
      | false =>
        replace FO2 := kd (show normL u = none by rw [FO2.out]; rfl)
        clear X5 X6
        have E := kd (show normL u = none by rw [FO2.out])
        have RR := kd (M.out.row (i := 1) rfl)
        have MB := kd M.out.bw
        have GE2 := kd (M.out.ge (i := 1) rfl)
        clear FO2
        go_wp2_with (with_reducible refine wpList_storeG rfl 32 (.tmp 2) (.tmp 89) rfl RR.out [.string ⟨#[]⟩, .string ⟨#[]⟩, .string ⟨#[]⟩, .int .i64 0, .slice none 0 0, .slice none 0 0] rfl rfl (lenU _ _ _ _ _ _ _ _ _ _ _ _) (sizeU _ _ _ _ _ _) (u_one _ _ _ _) ?_)
        intro w9 R9 G9
        have BW9 := kd (MB.out.grown G9.out MB.out.size (fun k hk => by cases hk; exact GE2.out))
        go_wp2_with fail
        exact bodyPost_ret (results_ct rfl _ _ _ b2 [.string ⟨#[]⟩, .string ⟨#[]⟩, .string ⟨#[]⟩, .int .i64 0, .slice none 0 0, .slice none 0 0] _ rfl R9.out.range Tryz.underlying32 rfl (sizeU _ _ _ _ _ _)) rfl (by exact BAD.out _ E.out BW9.out)

      | true =>
        obtain ⟨_, A5, c5, hv5, _⟩ := X5.out.whole
        subst hv5
        obtain ⟨_, A6, c6, hv6, _⟩ := X6.out.whole
        subst hv6
        replace FO2 := kd (show normL u = some ⟨sc, u.us, ho, u.po, m1, m2⟩ by rw [FO2.out]; rfl)
        have k4 := (M.out.row (i := 0) rfl).cell 4
        have f4 := (M.out.row (i := 0) rfl).frozen 4
        have k5 := ((M.out.row (i := 0) rfl).set 4 (.slice A5 m1.length c5)).cell 5
        have f5 := ((M.out.row (i := 0) rfl).set 4 (.slice A5 m1.length c5)).frozen 5
        simp only [List.getElem?_cons_succ, List.getElem?_cons_zero, List.set_cons_succ, List.set_cons_zero] at k4 k5
        go_upto_region 15 with (fail)
        have RB := kd (M.out.row (i := 0) rfl)
        have GB := kd (M.out.ge (i := 0) rfl)
        have Y5 := kd (vx_set2 (u4 := .slice A5 m1.length c5) (u5 := .slice A6 m2.length c6) X5.out RB.out GB.out)
        have Y6 := kd (vx_set2 (u4 := .slice A5 m1.length c5) (u5 := .slice A6 m2.length c6) X6.out RB.out GB.out)
        replace M := kd (show Mine w _ [(b, 32, [.string (strOfNums sc), .string (strOfNums u.us), .string (strOfNums ho), .int .i64 u.po, .slice A5 m1.length c5, .slice A6 m2.length c6]), (b2, 32, [.string ⟨#[]⟩, .string ⟨#[]⟩, .string ⟨#[]⟩, .int .i64 0, .slice none 0 0, .slice none 0 0]), (b1, 32, [.string (strOfNums u.sc), .string (strOfNums u.us), .string (strOfNums u.ho), .int .i64 u.po, .slice A1 u.ps.length c1, .slice A2 u.hs.length c2])] [(fun W => Rds W W.heap.size A2 (pms u.hs)), (fun W => Rds W W.heap.size A1 (pms u.ps))] from (M.out.setCell (i := 0) (off := 4) (.slice A5 m1.length c5) rfl rfl).setCell (i := 0) (off := 5) (.slice A6 m2.length c6) rfl rfl)
        clear k4 f4 k5 f5 X5 X6 RB GB
        generalize (w6.setCell ⟨b, 4, none⟩ (.slice A5 m1.length c5)).setCell ⟨b, 5, none⟩ (.slice A6 m2.length c6) = w7 at *
        have RU := kd (M.out.row (i := 0) rfl)
        have RR := kd (M.out.row (i := 1) rfl)
        have GE2 := kd (M.out.ge (i := 1) rfl)
        go_wp2_with (first
          | (with_reducible refine wpList_loadR rfl 32 (.tmp 4) rfl RU.out rfl Tryz.underlying32 rfl (sizeU _ _ _ _ _ _) ?_)
          | (with_reducible refine wpList_storeG rfl 32 (.tmp 2) (.tmp 94) rfl RR.out [.string (strOfNums sc), .string (strOfNums u.us), .string (strOfNums ho), .int .i64 u.po, .slice A5 m1.length c5, .slice A6 m2.length c6] rfl rfl (lenU _ _ _ _ _ _ _ _ _ _ _ _) (sizeU _ _ _ _ _ _) (u_one _ _ _ _) ?_))
        intro w9 R9 G9
        have Z5 := kd (vx_grown Y5.out RR.out GE2.out G9.out)
        have Z6 := kd (vx_grown Y6.out RR.out GE2.out G9.out)
        go_wp2_with fail
        exact bodyPost_ret (results_ct rfl _ _ _ b2 [.string (strOfNums sc), .string (strOfNums u.us), .string (strOfNums ho), .int .i64 u.po, .slice A5 m1.length c5, .slice A6 m2.length c6] _ rfl R9.out.range Tryz.underlying32 rfl (sizeU _ _ _ _ _ _)) rfl (by exact GOOD.out _ _ _ _ _ _ _ _ _ FO2.out Z5.out Z6.out)
end Go.Proofs.YthfonniieaiocaaGreatDoor
