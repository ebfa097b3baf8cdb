/- The law AuthAccepts. -/
import Derived.Test.YtfhbpgickkibmaaGreatDoorTf
namespace Go.Proofs.YtfhbpgickkibmaaGreatDoor
open Go.RowKit

theorem longer (us : ByteArray) {n : ByteArray} : hitA us (us ++ (⟨#[120]⟩ : ByteArray), n) = false := by
  unfold hitA
  rw [beq_eq_false_iff_ne]
  intro e
  have h := congrArg List.length e
  rw [ByteArray.toList_eq, ByteArray.toList_eq] at h
  simp at h
theorem zeroG : (Tryz.prog.info? 49).bind (·.zero) = some (.agg ([.string ⟨#[]⟩, .string ⟨#[]⟩, .int .i64 0, .int .i64 0, .slice none 0 0]).toArray) := by kernel_rfl
theorem slice_one (b : Nat) (w : World) : (Instr.sliceAt 50 (.slice (some ⟨b, 0, none⟩) 2 2) none (some (.int .i64 1)) none).run Tryz.prog w = .ok (.slice (some ⟨b, 0, none⟩) 1 2) w := by kernel_rfl
theorem cr9b_one (a b c d e f g : ByteArray) (k : Int) (q : Bool) : ∀ u ∈ [Value.string a, .string b, .string c, .string d, .string e, .string f, .string g, .int .i64 k, .bool q], u.oneCell' = true := fun u hu => by
  simp at hu
  rcases hu with rfl | rfl | rfl | rfl | rfl | rfl | rfl | rfl | rfl <;> rfl
theorem wpList_push120 {w wr : World} {ops : Array Oper} {rest : List Oper} {o : Oper} {a : Act} {Q : Exit → Act → World → Prop} (hgd : o.guard = none) (s x : Operand)
    (ho : o.op = .call { callee := .builtin .append, args := #[s, x], argTypes := #[31, 31] }) (v : Value) (n : Nat) (xs : List Value) (hs : a.eval s = v) (H : VX 5 1 w v n xs wr) (hx : a.eval x = .slice (some ⟨wr.heap.size, 0, none⟩) 1 1) (hb : n + 1 ≤ 16777216)
    (h : ∀ v' w', Hid (VX 5 1 w v' (n + 1) (xs ++ [.int .u8 120]) w') → wpList Tryz.prog ops Q rest (a.put o.dst v') w') : wpList Tryz.prog ops Q (o :: rest) a (wr.alloc (.cells #[.int .u8 120] 5)) :=
  wpList_pushT hgd s x ho Tryz.underlying31 i5all rfl (by decide) (by decide) v n xs hs H [.int .u8 120] rfl (fun u hu => by rw [List.mem_singleton] at hu; subst hu; rfl) hx hb h
theorem cr_XC (us rs TX pw : ByteArray) (bs : List Int) : crV (.ok (XC (byteL us) (byteL rs) (byteL TX) (byteL Cs) (byteL pw) 1 true bs)) = .tuple #[.agg #[.string us, .string rs, .string TX, .string BOBs, .string (strOfNums (XP (byteL us) (byteL rs) (byteL TX) (byteL Cs) (byteL pw) 1 true bs)), .string Cs, .string ⟨#[]⟩, .int .i64 1, .bool true], .int .u8 0] := by
  rw [XC_eq]
  unfold crV crC
  dsimp only
  rw [str_byteL, str_byteL, str_byteL, str_byteL, str_byteL]
  rfl
theorem respL_nobody (a b : List Int) (k : Int) (c d e f f' : List Int) : respL a b k c false d e f = respL a b k c false d e f' := by
  unfold respL
  rw [if_neg (by decide), if_neg (by decide)]
theorem zeroM6a : (Tryz.prog.info? 41).bind (·.zero) = some (.agg Z6.toArray) := by kernel_rfl
section
variable {P : Program} {Q : Exit → Act → World → Prop} {o : Oper} {a : Act} {w : World} {next : Act → World → Prop}
theorem wp_fa1 (T : TypeId) (x : Operand) (k : Nat) (ho : o.op = .fieldAddr T x k) (b off : Nat) (hx : a.eval x = .pointer (some ⟨b, 0, none⟩)) (hr : ∀ w : World, (Instr.fieldAt T (.pointer (some ⟨b, 0, none⟩)) k).run P w = .ok (.pointer (some ⟨b, off, none⟩)) w)
    (hn : next (a.put o.dst (.pointer (some ⟨b, off, none⟩))) w) : o.wp P a w next Q :=
  wp_value _ (by unfold execOp; simp only [ho, hx, Sem.run_bind, hr, Result.andThen_ok]; rfl) hn
theorem wp_ldc1 (ty : TypeId) (x : Operand) (ho : o.op = .load ty x) (b off : Nat) (v : Value) (hx : a.eval x = .pointer (some ⟨b, off, none⟩)) (hc : w.cell? ⟨b, off, none⟩ = some v) (d : TypeDesc) (hu : P.underlying ty = some d) (hd : d.isRow = false)
    (hn : next (a.put o.dst v) w) : o.wp P a w next Q :=
  wp_value v (by
    have hagg : (isAgg ty).run P w = .ok false w := by
      unfold isAgg
      rw [Sem.run_bind, run_underlying hu w]
      cases d <;> simp_all
    have hl : (loadVar ty ⟨b, off, none⟩).run P w = .ok v w := by
      simp [loadVar, Sem.run_bind, hagg, hc]
    unfold execOp
    simp only [ho, hx, Instr.loadAt, Instr.sureAddr, Sem.run_bind, Sem.run_pure, Result.andThen_ok, hl]) hn
end
theorem firL_worse {re ke : ByteArray} {life : Int} (h : ¬ (re.size ≤ 200 ∧ clean (byteL re) = true)) : (firL re ke life).q = 2 := by
  by_cases h1 : 200 < re.size ∨ 200 < ke.size
  · rw [firL_bad h1]
  · rw [firL_ok h1, issL_bad]
    unfold badI validG
    have : clean (byteL re) = false := by
      cases hc : clean (byteL re)
      · rfl
      · exact absurd ⟨by omega, hc⟩ h
    rw [this]
    rfl
set_option maxRecDepth 100000 in
set_option maxHeartbeats 4000000 in
theorem accepts_any (us rs pw ty : ByteArray) (B : Option Addr) (m d : Nat) (bs : List Int) (g : Bool) (w : World) (hby : By bs) (hm : bs.length = m) (hmM : m ≤ 1048576) (hB : Bs w w.heap.size B bs) (hnil : B = none → m = 0 ∧ d = 0)
    (s1 : us.size ≤ 1048576) (s2 : rs.size ≤ 1048576) (s3 : pw.size ≤ 1048576) (s4 : ty.size ≤ 1048576) (hG : GM w) (hK : KC w) (hP : PT w) (hS : SC w) :
    Calls Tryz.prog 8 #[.agg #[.string us, .string rs, .string pw, .string ty], .slice B m d, .bool g] w fun e w' => e = .returned (.bool true) ∧ Below w.heap.size w w' := by
  have HG := Lib.hid hG; have HK := Lib.hid hK; have HP := Lib.hid hP; have HS := Lib.hid hS; have HBY := Lib.hid hby; have HM := Lib.hid hm; have HB := Lib.hid hB; have HNIL := Lib.hid hnil
  clear hG hK hP hS hby hm hB hnil
  have ST := Lib.hid (show Mine w (w.alloc (.cells #[.string us, .string rs, .string pw, .string ty] 64)) [] _ from ((Mine.refl w).alloc 64 [.string us, .string rs, .string pw, .string ty]).rest)
  have FI := Lib.hid (first_any rs KEs 5000 (w.alloc (.cells #[.string us, .string rs, .string pw, .string ty] 64)) (by omega) (by decide) (HK.out.below ST.out.bw) (HP.out.below ST.out.bw))
  have l0 := ((show Row _ w.heap.size 64 [.string us, .string rs, .string pw, .string ty] from ST.out.fact (i := 0) rfl)).cell 0; have l1 := ((show Row _ w.heap.size 64 [.string us, .string rs, .string pw, .string ty] from ST.out.fact (i := 0) rfl)).cell 1; have l2 := ((show Row _ w.heap.size 64 [.string us, .string rs, .string pw, .string ty] from ST.out.fact (i := 0) rfl)).cell 2; have l3 := ((show Row _ w.heap.size 64 [.string us, .string rs, .string pw, .string ty] from ST.out.fact (i := 0) rfl)).cell 3
  simp only [List.getElem?_cons_succ, List.getElem?_cons_zero] at l0 l1 l2 l3
  by_cases hok : rs.size ≤ 200 ∧ clean (byteL rs) = true
  · rw [first_one hok.2 (by decide) (by decide) (by decide) hok.1 (by decide)] at FI
    have HOK := Lib.hid hok
    clear hok
    generalize hTX : txtI KEs 0 1000 = TX at FI
    have HTX := Lib.hid hTX
    clear hTX
    go_enter Tryz.func8, Tryz.ntmps8
    go_wp2_with fail
    refine FI.out.mono ?_
    clear FI l0 l1 l2 l3
    rintro e X ⟨hbx, A1, c1, rfl, hn1, hA1⟩
    dsimp only at hn1 hA1 ⊢
    rw [List.length_singleton, show ((0 : Int) == 0) = true from rfl]
    rw [List.length_singleton] at hn1
    replace ST := Lib.hid ((ST.out.call hbx).add (stab_rds hA1 (fun b o s e => by simp)))
    have HN1 := Lib.hid hn1
    clear hbx hA1 hn1
    replace ST := Lib.hid (show Mine w ((X.alloc (.cells #[.string ⟨#[]⟩, .string ⟨#[]⟩, .int .i64 0, .int .i64 0, .slice none 0 0] 49)).alloc (.cells #[.string ⟨#[]⟩, .string ⟨#[]⟩, .string ⟨#[]⟩, .bool false, .bool false] 36)) _ _ by
      have h := (ST.out.alloc 49 [.string ⟨#[]⟩, .string ⟨#[]⟩, .int .i64 0, .int .i64 0, .slice none 0 0]).alloc 36 [.string ⟨#[]⟩, .string ⟨#[]⟩, .string ⟨#[]⟩, .bool false, .bool false]
      rw [World.size_alloc] at h
      exact h)
    go_wp2_with (with_reducible refine wpList_storeS ST.out 1 rfl 49 (.tmp 7) (.tmp 40) rfl [.string rs, .string KEs, .int .i64 5000, .int .i64 1, .slice A1 1 c1] _ rfl rfl rfl rfl (lenG _ _ _ _ _ _ _ _ _ _) (sizeG _ _ _ _ _) (g_one _ _ _ _ _ _ _) ?_)
    intro X2 ST'
    clear ST
    go_wp2_with (with_reducible refine wpList_storeS ST'.out 0 rfl 36 (.tmp 8) (.tmp 41) rfl [.string rs, .string TX, .string ⟨#[]⟩, .bool true, .bool false] _ rfl rfl rfl rfl (lenG _ _ _ _ _ _ _ _ _ _) (sizeCh _ _ _ _ _) (ch_one _ _ _ _ _) ?_)
    intro Y ST
    clear ST'
    replace ST := Lib.hid ST.out.rest.rest
    have l0 := ((show Row _ w.heap.size 64 [.string us, .string rs, .string pw, .string ty] from ST.out.fact (i := 3) rfl)).cell 0; have l1 := ((show Row _ w.heap.size 64 [.string us, .string rs, .string pw, .string ty] from ST.out.fact (i := 3) rfl)).cell 1; have l2 := ((show Row _ w.heap.size 64 [.string us, .string rs, .string pw, .string ty] from ST.out.fact (i := 3) rfl)).cell 2; have l3 := ((show Row _ w.heap.size 64 [.string us, .string rs, .string pw, .string ty] from ST.out.fact (i := 3) rfl)).cell 3
    simp only [List.getElem?_cons_succ, List.getElem?_cons_zero] at l0 l1 l2 l3
    by_cases hlen : us.size + pw.size + ty.size ≤ 400
    · have d1 : decide ((400 : Int) < (us.size : Int) + (pw.size : Int) + (ty.size : Int)) = false := by simp; omega
      have w1 : wrap64 ((us.size : Int) + (pw.size : Int)) = (us.size : Int) + (pw.size : Int) := by unfold wrap64; omega
      have w2 : wrap64 ((us.size : Int) + (pw.size : Int) + (ty.size : Int)) = (us.size : Int) + (pw.size : Int) + (ty.size : Int) := by unfold wrap64; omega
      by_cases hbl : m ≤ 1000
      · have d2 : decide ((1000 : Int) < (m : Int)) = false := by simp; omega
        have d3 : decide (1000 < m) = false := by simp; omega
        go_wp2_with fail
        clear d1 w1 w2 d2 d3 l0 l1 l2 l3
        have q0 := fun x : BW Y => (show Row _ w.heap.size 64 [.string us, .string rs, .string pw, .string ty] from ST.out.fact (i := 3) rfl).later x 0
        have q1 := fun x : BW Y => (show Row _ w.heap.size 64 [.string us, .string rs, .string pw, .string ty] from ST.out.fact (i := 3) rfl).later x 1
        have q2 := fun x : BW Y => (show Row _ w.heap.size 64 [.string us, .string rs, .string pw, .string ty] from ST.out.fact (i := 3) rfl).later x 2
        simp only [List.getElem?_cons_succ, List.getElem?_cons_zero] at q0 q1 q2
        have QS := Lib.hid (fun (x : BW Y) => secret_any us rs pw x.w (by omega) (HK.out.below (bthen ST.out.bw x.h)))
        have z1 : ¬ (9223372036854775807 < us.size + 1) := by omega
        refine region_bwt 14 (by kernel_rfl) (by kernel_rfl) ?_
        simp only [List.take_succ_cons, List.take_zero, List.drop_succ_cons, List.drop_zero]
        iterate 12 go_big_quiet_step (fail)
        go_big_quiet_step (exact calls_bw (QS.out _))
        go_big_quiet_step (fail)
        refine wpQuiet_nil ?_
        rintro _ ⟨x, rfl⟩
        clear q0 q1 q2 QS z1
        obtain ⟨SE, hSE⟩ : ∃ SE, SE = strOfNums (hashL [byteL us, byteL rs, byteL pw]) := ⟨_, rfl⟩
        have SEQ := Lib.hid hSE
        rw [← hSE]
        clear hSE
        obtain ⟨Y2, hx⟩ : ∃ Y2, Y2 = x.w := ⟨_, rfl⟩
        replace ST := Lib.hid (show Mine w Y2 _ _ by rw [hx]; exact ST.out.call x.h)
        rw [← hx]
        clear hx x
        go_wp2_with fail
        replace ST := Lib.hid (show Mine w (Y2.alloc (.cells #[.string (us ++ (⟨#[120]⟩ : ByteArray)), .string ⟨#[110, 111, 110, 101]⟩, .string us, .string SE] 54)) _ _ from (ST.out.alloc 54 [.string (us ++ (⟨#[120]⟩ : ByteArray)), .string ⟨#[110, 111, 110, 101]⟩, .string us, .string SE]).rest)
        generalize Y2.alloc (.cells #[.string (us ++ (⟨#[120]⟩ : ByteArray)), .string ⟨#[110, 111, 110, 101]⟩, .string us, .string SE] 54) = Y3 at *
        obtain ⟨V, hV⟩ : ∃ V, V = ansL 0 true (XC (byteL us) (byteL rs) (byteL TX) (byteL Cs) (byteL pw) 1 g bs) := ⟨_, rfl⟩
        have HV := Lib.hid hV
        clear hV
        refine region_put (by kernel_rfl) (by kernel_rfl) (fun j W v => ((([.eq (.agg #[.string rs, .string TX, .string ⟨#[]⟩, .bool true, .bool false]), .eq (.pointer (some ⟨w.heap.size, 0, none⟩)), .eq (.string us), .eq (.bool g), .eq (.agg #[.string us, .string ⟨#[]⟩, .string ⟨#[]⟩, .string ⟨#[]⟩, .string ⟨#[]⟩, .string Cs, .string ⟨#[]⟩, .int .i64 1, .bool g]), .eq (.pointer (some ⟨w.heap.size, 2, none⟩)), .eq (.string pw), .eq (.slice B m d), .inv, .ans, .ans, .msg, .err, .any, .any, .err] : List Ask)).getD j .any).holds V bs B m d W v) 13 14 11 11 91 41 41 Z6 (by kernel_rfl) (by kernel_rfl) _ _ _ rfl rfl ?halloc rfl rfl rfl rfl rfl (by kernel_rfl) (by kernel_rfl) (by decide) (by decide) size6 (fun W v h => Ask.cells h) (fun j v W W' hb h => Ask.below hb h) (fun j v W b us _ hr _ h => Ask.setRow hr h) ?hstep ?hend
        case halloc => exact fun W ev => exec_alloc rfl zeroM6a
        case hstep =>
          intro j o h1 h2 ho a' W hB hF hD
          have STW := ST.out.call hB
          match j, ho with
          | 0, ho =>
            obtain rfl := Option.some.inj ho
            exact wp_load1 36 (.tmp 8) rfl _ 0 [.string rs, .string TX, .string ⟨#[]⟩, .bool true, .bool false] _ ((free_eval hF (by kernel_rfl)).trans rfl) ((show Row _ (X.heap.size + 1) 36 [.string rs, .string TX, .string ⟨#[]⟩, .bool true, .bool false] from ST.out.fact (i := 2) rfl).below hB).range Tryz.underlying36 rfl sizeCh5 ⟨_, rfl, Below.refl _ _, rfl⟩
          | 1, ho =>
            obtain rfl := Option.some.inj ho
            exact wp_fa1 64 (.tmp 3) 0 rfl w.heap.size 0 ((free_eval hF (by kernel_rfl)).trans rfl) (fun w => by kernel_rfl) ⟨_, rfl, Below.refl _ _, rfl⟩
          | 2, ho =>
            obtain rfl := Option.some.inj ho
            exact wp_ldc1 9 (.tmp 82) rfl w.heap.size 0 (.string us) (dep_eval hD 1 (by kernel_rfl) rfl rfl) (((show Row _ w.heap.size 64 [.string us, .string rs, .string pw, .string ty] from ST.out.fact (i := 4) rfl).below hB).cell 0) _ Tryz.underlying9 rfl ⟨_, rfl, Below.refl _ _, rfl⟩
          | 3, ho =>
            obtain rfl := Option.some.inj ho
            exact wp_mv1 (.tmp 2) (.inl rfl) ⟨_, rfl, Below.refl _ _, (free_eval hF (by kernel_rfl)).trans rfl⟩
          | 4, ho =>
            obtain rfl := Option.some.inj ho
            have hx1 := dep_eval hD 2 (by kernel_rfl) rfl rfl
            have hx2 := dep_eval hD 3 (by kernel_rfl) rfl rfl
            replace hx1 : a'.eval (.tmp 83) = .string us := hx1
            replace hx2 : a'.eval (.tmp 84) = .bool g := hx2
            exact wp_build1 23 _ rfl [(0, .string us), (5, .string ⟨#[99]⟩), (7, .int .i64 1), (8, .bool g)] (by simp only [List.map_toArray, List.map_cons, List.map_nil, hx1, hx2]; rfl) #[.string us, .string ⟨#[]⟩, .string ⟨#[]⟩, .string ⟨#[]⟩, .string ⟨#[]⟩, .string Cs, .string ⟨#[]⟩, .int .i64 1, .bool g] (by kernel_rfl) ⟨_, rfl, Below.refl _ _, rfl⟩
          | 5, ho =>
            obtain rfl := Option.some.inj ho
            exact wp_fa1 64 (.tmp 3) 2 rfl w.heap.size 2 ((free_eval hF (by kernel_rfl)).trans rfl) (fun w => by kernel_rfl) ⟨_, rfl, Below.refl _ _, rfl⟩
          | 6, ho =>
            obtain rfl := Option.some.inj ho
            exact wp_ldc1 9 (.tmp 86) rfl w.heap.size 2 (.string pw) (dep_eval hD 5 (by kernel_rfl) rfl rfl) (((show Row _ w.heap.size 64 [.string us, .string rs, .string pw, .string ty] from ST.out.fact (i := 4) rfl).below hB).cell 2) _ Tryz.underlying9 rfl ⟨_, rfl, Below.refl _ _, rfl⟩
          | 7, ho =>
            obtain rfl := Option.some.inj ho
            exact wp_mv1 (.tmp 1) (.inl rfl) ⟨_, rfl, Below.refl _ _, (free_eval hF (by kernel_rfl)).trans rfl⟩
          | 8, ho =>
            obtain rfl := Option.some.inj ho
            have hx1 := dep_eval hD 7 (by kernel_rfl) rfl rfl
            replace hx1 : a'.eval (.tmp 88) = .slice B m d := hx1
            refine wp_call1 33 _ _ rfl #[.slice B m d] (by simp only [List.map_toArray, List.map_cons, List.map_nil, hx1]) (enters_of Tryz.func33 (by kernel_rfl) rfl) ((invite_any B m d W).mono ?_)
            rintro e W2 ⟨hb, b, rfl, hr⟩
            exact ⟨_, rfl, _, rfl, hb, b, rfl, hr⟩
          | 9, ho =>
            obtain rfl := Option.some.inj ho
            have hx0 := dep_eval hD 0 (by kernel_rfl) rfl rfl
            have hx2 := dep_eval hD 4 (by kernel_rfl) rfl rfl
            have hx4 := dep_eval hD 6 (by kernel_rfl) rfl rfl
            have hx3 := dep_eval hD 8 (by kernel_rfl) rfl rfl
            replace hx0 : a'.eval (.tmp 81) = .agg #[.string rs, .string TX, .string ⟨#[]⟩, .bool true, .bool false] := hx0
            replace hx2 : a'.eval (.tmp 85) = .agg #[.string us, .string ⟨#[]⟩, .string ⟨#[]⟩, .string ⟨#[]⟩, .string ⟨#[]⟩, .string Cs, .string ⟨#[]⟩, .int .i64 1, .bool g] := hx2
            replace hx4 : a'.eval (.tmp 87) = .string pw := hx4
            refine wp_call1 22 _ _ rfl #[.agg #[.string rs, .string TX, .string ⟨#[]⟩, .bool true, .bool false], .agg #[.string us, .string ⟨#[]⟩, .string ⟨#[]⟩, .string ⟨#[]⟩, .string ⟨#[]⟩, .string Cs, .string ⟨#[]⟩, .int .i64 1, .bool g], .string pw, a'.eval (.tmp 89)] (by simp only [List.map_toArray, List.map_cons, List.map_nil, hx0, hx2, hx4]) (enters_of Tryz.func22 (by kernel_rfl) rfl) ((answer_inv rs TX us Cs pw g 1 B m d bs W _ hx3 HBY.out HM.out (by omega) ((HB.out.below STW.bw).up STW.bw.size) HNIL.out (by omega) (by rw [← HTX.out, txt_size]; decide) (by omega) (by decide) (by omega) (HK.out.below STW.bw) (HS.out.below STW.bw)).mono ?_)
            rintro e W2 ⟨u, rfl, hb, hu⟩
            rw [← HV.out] at hu
            exact ⟨_, rfl, _, rfl, hb, hu⟩
          | 10, ho =>
            obtain rfl := Option.some.inj ho
            exact wp_mv1 (.tmp 90) (.inl rfl) ⟨_, rfl, Below.refl _ _, dep_eval hD 9 (by kernel_rfl) rfl rfl⟩
          | 11, ho =>
            obtain rfl := Option.some.inj ho
            obtain ⟨m, hm, h3⟩ := dep_eval hD 10 (by kernel_rfl) rfl rfl
            exact wp_ext1 (.tmp 80) 0 rfl _ _ hm rfl ⟨_, rfl, Below.refl _ _, h3⟩
          | 12, ho =>
            obtain rfl := Option.some.inj ho
            obtain ⟨m, hm, h3⟩ := dep_eval hD 10 (by kernel_rfl) rfl rfl
            exact wp_ext1 (.tmp 80) 1 rfl _ _ hm rfl ⟨_, rfl, Below.refl _ _, rfl⟩
          | 13, ho => exact absurd rfl h1
          | 14, ho => exact absurd rfl h2
          | 15, ho =>
            obtain rfl := Option.some.inj ho
            exact wp_mv1 (.tmp 92) (.inr rfl) ⟨_, rfl, Below.refl _ _, dep_eval hD 12 (by kernel_rfl) rfl rfl⟩
          | j + 16, ho => simp at ho
        case hend => as_aux_lemma =>
          intro vs W b us' hB hlen hv hb h8 h6 hR
          obtain ⟨v0, v1, v2, v3, v4, v5, v6, v7, v8, v9, v10, v11, v12, v13, v14, v15, rfl⟩ : ∃ v0 v1 v2 v3 v4 v5 v6 v7 v8 v9 v10 v11 v12 v13 v14 v15, vs = [v0, v1, v2, v3, v4, v5, v6, v7, v8, v9, v10, v11, v12, v13, v14, v15] := by
            match vs, hlen with
            | [v0, v1, v2, v3, v4, v5, v6, v7, v8, v9, v10, v11, v12, v13, v14, v15], _ => exact ⟨_, _, _, _, _, _, _, _, _, _, _, _, _, _, _, _, rfl⟩
          obtain rfl : v0 = .agg #[.string rs, .string TX, .string ⟨#[]⟩, .bool true, .bool false] := hv 0 _ _ v0 (by decide) rfl rfl rfl
          have e6 : AnsM V bs W v11 := hv 11 _ _ v11 (by decide) rfl rfl rfl
          obtain rfl : v12 = .int .u8 (errA V) := hv 12 _ _ v12 (by decide) rfl rfl rfl
          obtain rfl : v15 = .int .u8 (errA V) := hv 15 _ _ v15 (by decide) rfl rfl rfl
          obtain rfl : v13 = .pointer (some ⟨b, 0, none⟩) := Option.some.inj h8
          obtain rfl : v11 = .agg us'.toArray := Option.some.inj h6
          replace ST := Lib.hid (ST.out.call hB)
          have RM := Lib.hid hR; have E6 := Lib.hid e6
          clear hv hlen h8 h6 hb hB hR e6
          simp only [putL, Act.put, List.setIfInBounds_toArray, List.set_cons_zero, List.set_cons_succ]
          cases hU : clean (byteL us) with
          | false =>
            obtain rfl : V = none := by rw [HV.out, ans_XC (by decide) (by decide) (by simp), hU]; rfl
            clear HV E6 RM
            rw [show errA none = 2 from rfl]
            go_wp2_with fail
            refine (awake_any _ (HG.out.below ST.out.bw)).mono ?_
            rintro e w9 ⟨rfl, hb9⟩
            replace ST := Lib.hid (ST.out.call hb9)
            clear hb9
            go_wp2_with fail
            go_ret
            exact ⟨rfl, ST.out.bw⟩
          | true =>
            have XO := Lib.hid (show XOk (byteL us) (byteL rs) (byteL TX) (byteL Cs) 1 from ⟨byteL_by _, byteL_by _, byteL_by _, byteL_by _, by decide, by decide, by rw [hU, HOK.out.2, ← HTX.out, show clean (byteL (txtI KEs 0 1000)) = true from txt_clean _ _ _]; rfl⟩)
            obtain rfl : V = some (valA (XC (byteL us) (byteL rs) (byteL TX) (byteL Cs) (byteL pw) 1 g bs)) := by rw [HV.out, ans_XC (by decide) (by decide) (by simp), if_pos XO.out.cl]
            clear HV hU
            rw [show errA (some (valA (XC (byteL us) (byteL rs) (byteL TX) (byteL Cs) (byteL pw) 1 g bs))) = 0 from rfl]
            obtain ⟨A6, c6, B6, d6, eu, hA6, hB6⟩ := E6.out
            obtain rfl : us' = [.string INVs, .string BOBs, .int .i64 0, .string ⟨#[]⟩, .slice A6 2 c6, .slice B6 bs.length d6] := by injection eu with eu; simpa using congrArg Array.toList eu
            replace ST := Lib.hid (((ST.out.add (stab_row RM.out (by simp))).add (stab_rds hA6 (fun b o s e => by simp))).add (stab_bs hB6 (fun ad e => by simp)))
            clear eu hA6 hB6 E6 RM
            have FK := Lib.hid (show findK [((us ++ (⟨#[120]⟩ : ByteArray)), ⟨#[110, 111, 110, 101]⟩), (us, SE)] (strOfNums (byteL us)) = some 1 by
              rw [str_byteL]; unfold findK
              rw [List.findIdx?_cons, List.findIdx?_cons, longer us, show hitA us (us, SE) = true by unfold hitA; simp]
              rfl)
            have FK0 := Lib.hid (show findK [((us ++ (⟨#[120]⟩ : ByteArray)), ⟨#[110, 111, 110, 101]⟩)] (strOfNums (byteL us)) = none by
              rw [str_byteL]; unfold findK
              rw [List.findIdx?_cons, longer us]
              rfl)
            have HUS := Lib.hid (show ∀ h ∈ [((us ++ (⟨#[120]⟩ : ByteArray)), ⟨#[110, 111, 110, 101]⟩), (us, SE)], h.2.size ≤ 4000000 from fun h hh => by
              rcases List.mem_cons.1 hh with rfl | hh
              · show (⟨#[110, 111, 110, 101]⟩ : ByteArray).size ≤ _; decide
              · rw [List.mem_singleton] at hh; subst hh
                show SE.size ≤ _
                rw [SEQ.out, num_size, hashL_len]; decide)
            have HTW := Lib.hid (show ∀ (p : ByteArray), p.size ≤ 400 → ∀ h ∈ TwoH (XC (byteL us) (byteL rs) (byteL TX) (byteL Cs) (byteL p) 1 g bs), h.1.size ≤ 4000000 ∧ h.2.size ≤ 4000000 from fun p hp h hh => by
              unfold TwoH at hh
              rcases List.mem_cons.1 hh with rfl | hh
              · decide
              · rw [List.mem_singleton] at hh; subst hh
                refine ⟨by show AUTHs.size ≤ _; decide, ?_⟩
                show (strOfNums _).size ≤ _
                rw [num_size]
                have := valA_len (c := XC (byteL us) (byteL rs) (byteL TX) (byteL Cs) (byteL p) 1 g bs) (by
                  rw [XC_eq]
                  dsimp only
                  rw [byteL_len, byteL_len, byteL_len, byteL_len, byteL_len, XP_len, show TX.size = 64 from HTX.out ▸ txt_size _ _ _]
                  have := HOK.out.1
                  have e1 : BOBs.size = 9 := rfl
                  have e2 : Cs.size = 1 := rfl
                  have e3 : ([] : List Int).length = 0 := rfl
                  omega)
                omega)
            have RSE := Lib.hid (show respL (byteL SE) (byteL TX) 1 (byteL Cs) g (byteL BOBs) (byteL INVs) bs = XP (byteL us) (byteL rs) (byteL TX) (byteL Cs) (byteL pw) 1 g bs by rw [SEQ.out, byteL_str (hashL_by _)]; rfl)
            have HBD := Lib.hid (show ∀ (k now : Int), 0 ≤ k → k ≤ 1 → 0 ≤ now → now ≤ 10000 → badV rs KEs 5000 1 0 now [⟨TX, 1000, k⟩] = false from fun k now h1 h2 h3 h4 => badV_one (valid_one HOK.out.2 (by rfl) (by decide) (by decide) (by decide) (by decide) (by decide) (by decide) h1 (by omega)) h3 (by omega))
            have VQ := Lib.hid (verify_any rs KEs INVs BOBs ⟨#[]⟩ 5000 1 0 6000 A1 (some ⟨Y2.heap.size, 0, none⟩) A6 B6 1 c1 2 2 2 c6 bs.length d6 [⟨TX, 1000, 0⟩] [((us ++ (⟨#[120]⟩ : ByteArray)), ⟨#[110, 111, 110, 101]⟩), (us, SE)] (TwoH (XC (byteL us) (byteL rs) (byteL TX) (byteL Cs) (byteL pw) 1 g bs)) bs _ (show Rds _ _ A1 (ncs [⟨TX, 1000, 0⟩]) from ST.out.fact (i := 6) rfl) rfl (by decide)
              (fun _ => ⟨Y2.heap.size, 0, rfl, (show Row _ Y2.heap.size 54 [.string (us ++ (⟨#[120]⟩ : ByteArray)), .string ⟨#[110, 111, 110, 101]⟩, .string us, .string SE] from ST.out.fact (i := 3) rfl).lt, fun j u hu => by rw [Nat.zero_add, (show Row _ Y2.heap.size 54 [.string (us ++ (⟨#[120]⟩ : ByteArray)), .string ⟨#[110, 111, 110, 101]⟩, .string us, .string SE] from ST.out.fact (i := 3) rfl).cell]; exact hu⟩) rfl (by decide) HUS.out (show Rds _ _ A6 (hds (TwoH (XC (byteL us) (byteL rs) (byteL TX) (byteL Cs) (byteL pw) 1 g bs))) from ST.out.fact (i := 1) rfl) rfl (by decide) (HTW.out pw (by omega)) HBY.out rfl (by have := HM.out; omega) (show Bs _ _ B6 bs from ST.out.fact (i := 0) rfl) (by omega) (by decide) (by decide) (by decide) HN1.out (HK.out.below ST.out.bw) (HS.out.below ST.out.bw))
            rw [ver_one (j := 1) (s := SE) XO.out (HBD.out 0 6000 (by decide) (by decide) (by decide) (by decide)) FK.out rfl RSE.out, if_neg (by decide), if_neg (by decide), str_byteL] at VQ
            go_wp2_with (first | (with_reducible refine wpList_loadR rfl 49 (.tmp 7) rfl (show Row _ X.heap.size 49 [.string rs, .string KEs, .int .i64 5000, .int .i64 1, .slice A1 1 c1] from ST.out.fact (i := 4) rfl) rfl Tryz.underlying49 rfl (sizeG _ _ _ _ _) ?_) | (with_reducible refine wpList_loadR rfl 41 (.tmp 11) rfl (show Row _ b 41 [.string INVs, .string BOBs, .int .i64 0, .string ⟨#[]⟩, .slice A6 2 c6, .slice B6 bs.length d6] from ST.out.fact (i := 2) rfl) rfl Tryz.underlying41 rfl (sizeL6 _ _ _ _ _ _) ?_))
            refine VQ.out.mono ?_
            clear VQ
            rintro e Z1 ⟨hbz, A9, c9, rfl, hA9⟩
            dsimp only at hA9 ⊢
            rw [List.length_singleton]
            have HN9 := Lib.hid (show A9 = none → 1 = 0 ∧ c9 = 0 from fun e => by
              obtain ⟨b2, o2, e2, _⟩ := hA9 (by rw [ncs_len]; show 0 < 1 * 3; decide)
              rw [e] at e2; cases e2)
            replace ST := Lib.hid ((ST.out.call hbz).add (stab_rds hA9 (fun b o s e => by simp)))
            clear hbz hA9
            go_wp2_with (with_reducible refine wpList_storeN rfl 49 (.tmp 13) (.tmp 105) rfl [.string ⟨#[]⟩, .string ⟨#[]⟩, .int .i64 0, .int .i64 0, .slice none 0 0] [.string rs, .string KEs, .int .i64 5000, .int .i64 1, .slice A9 1 c9] rfl rfl (lenG _ _ _ _ _ _ _ _ _ _) (sizeG _ _ _ _ _) (g_one _ _ _ _ _ _ _) ?_)
            intro Z2 R13 BZ
            replace ST := Lib.hid ((ST.out.call BZ.out).add (stab_row R13.out (by simp)))
            clear R13 BZ
            have VQ := Lib.hid (verify_any rs KEs INVs BOBs ⟨#[]⟩ 5000 1 0 6000 A9 (some ⟨Y2.heap.size, 0, none⟩) A6 B6 1 c9 2 2 2 c6 bs.length d6 [⟨TX, 1000, 1⟩] [((us ++ (⟨#[120]⟩ : ByteArray)), ⟨#[110, 111, 110, 101]⟩), (us, SE)] (TwoH (XC (byteL us) (byteL rs) (byteL TX) (byteL Cs) (byteL pw) 1 g bs)) bs _ (show Rds _ _ A9 (ncs [⟨TX, 1000, 1⟩]) from ST.out.fact (i := 1) rfl) rfl (by decide)
              (fun _ => ⟨Y2.heap.size, 0, rfl, (show Row _ Y2.heap.size 54 [.string (us ++ (⟨#[120]⟩ : ByteArray)), .string ⟨#[110, 111, 110, 101]⟩, .string us, .string SE] from ST.out.fact (i := 5) rfl).lt, fun j u hu => by rw [Nat.zero_add, (show Row _ Y2.heap.size 54 [.string (us ++ (⟨#[120]⟩ : ByteArray)), .string ⟨#[110, 111, 110, 101]⟩, .string us, .string SE] from ST.out.fact (i := 5) rfl).cell]; exact hu⟩) rfl (by decide) HUS.out (show Rds _ _ A6 (hds (TwoH (XC (byteL us) (byteL rs) (byteL TX) (byteL Cs) (byteL pw) 1 g bs))) from ST.out.fact (i := 3) rfl) rfl (by decide) (HTW.out pw (by omega)) HBY.out rfl (by have := HM.out; omega) (show Bs _ _ B6 bs from ST.out.fact (i := 2) rfl) (by omega) (by decide) (by decide) (by decide) HN9.out (HK.out.below ST.out.bw) (HS.out.below ST.out.bw))
            rw [ver_one (j := 1) (s := SE) XO.out (HBD.out 1 6000 (by decide) (by decide) (by decide) (by decide)) FK.out rfl RSE.out, if_neg (by decide), if_pos (by decide)] at VQ
            go_wp2_with (first | (with_reducible refine wpList_loadR rfl 49 (.tmp 13) rfl (show Row _ Z1.heap.size 49 [.string rs, .string KEs, .int .i64 5000, .int .i64 1, .slice A9 1 c9] from ST.out.fact (i := 0) rfl) rfl Tryz.underlying49 rfl (sizeG _ _ _ _ _) ?_) | (with_reducible refine wpList_loadR rfl 41 (.tmp 11) rfl (show Row _ b 41 [.string INVs, .string BOBs, .int .i64 0, .string ⟨#[]⟩, .slice A6 2 c6, .slice B6 bs.length d6] from ST.out.fact (i := 4) rfl) rfl Tryz.underlying41 rfl (sizeL6 _ _ _ _ _ _) ?_))
            refine VQ.out.mono ?_
            clear VQ
            rintro e Z3 ⟨hbz, A10, c10, rfl, hA10⟩
            dsimp only at hA10 ⊢
            rw [List.length_singleton]
            replace ST := Lib.hid ((ST.out.call hbz).add (stab_rds hA10 (fun b o s e => by simp)))
            clear hbz hA10
            go_wp2_with (with_reducible refine wpList_storeN rfl 49 (.tmp 16) (.tmp 113) rfl [.string ⟨#[]⟩, .string ⟨#[]⟩, .int .i64 0, .int .i64 0, .slice none 0 0] [.string rs, .string KEs, .int .i64 5000, .int .i64 1, .slice A10 1 c10] rfl rfl (lenG _ _ _ _ _ _ _ _ _ _) (sizeG _ _ _ _ _) (g_one _ _ _ _ _ _ _) ?_)
            intro Z4 R16 BZ
            replace ST := Lib.hid ((ST.out.call BZ.out).add (stab_row R16.out (by simp)))
            clear R16 BZ
            have VQ := Lib.hid (verify_any rs KEs INVs BOBs ⟨#[]⟩ 5000 1 0 6001 A1 (some ⟨Y2.heap.size, 0, none⟩) A6 B6 1 c1 2 2 2 c6 bs.length d6 [⟨TX, 1000, 0⟩] [((us ++ (⟨#[120]⟩ : ByteArray)), ⟨#[110, 111, 110, 101]⟩), (us, SE)] (TwoH (XC (byteL us) (byteL rs) (byteL TX) (byteL Cs) (byteL pw) 1 g bs)) bs _ (show Rds _ _ A1 (ncs [⟨TX, 1000, 0⟩]) from ST.out.fact (i := 10) rfl) rfl (by decide)
              (fun _ => ⟨Y2.heap.size, 0, rfl, (show Row _ Y2.heap.size 54 [.string (us ++ (⟨#[120]⟩ : ByteArray)), .string ⟨#[110, 111, 110, 101]⟩, .string us, .string SE] from ST.out.fact (i := 7) rfl).lt, fun j u hu => by rw [Nat.zero_add, (show Row _ Y2.heap.size 54 [.string (us ++ (⟨#[120]⟩ : ByteArray)), .string ⟨#[110, 111, 110, 101]⟩, .string us, .string SE] from ST.out.fact (i := 7) rfl).cell]; exact hu⟩) rfl (by decide) HUS.out (show Rds _ _ A6 (hds (TwoH (XC (byteL us) (byteL rs) (byteL TX) (byteL Cs) (byteL pw) 1 g bs))) from ST.out.fact (i := 5) rfl) rfl (by decide) (HTW.out pw (by omega)) HBY.out rfl (by have := HM.out; omega) (show Bs _ _ B6 bs from ST.out.fact (i := 4) rfl) (by omega) (by decide) (by decide) (by decide) HN1.out (HK.out.below ST.out.bw) (HS.out.below ST.out.bw))
            rw [ver_one (j := 1) (s := SE) XO.out (HBD.out 0 6001 (by decide) (by decide) (by decide) (by decide)) FK.out rfl RSE.out, if_pos (by decide)] at VQ
            go_wp2_with (first | (with_reducible refine wpList_loadR rfl 49 (.tmp 7) rfl (show Row _ X.heap.size 49 [.string rs, .string KEs, .int .i64 5000, .int .i64 1, .slice A1 1 c1] from ST.out.fact (i := 8) rfl) rfl Tryz.underlying49 rfl (sizeG _ _ _ _ _) ?_) | (with_reducible refine wpList_loadR rfl 41 (.tmp 11) rfl (show Row _ b 41 [.string INVs, .string BOBs, .int .i64 0, .string ⟨#[]⟩, .slice A6 2 c6, .slice B6 bs.length d6] from ST.out.fact (i := 6) rfl) rfl Tryz.underlying41 rfl (sizeL6 _ _ _ _ _ _) ?_))
            refine VQ.out.mono ?_
            clear VQ
            rintro e Z5 ⟨hbz, A11, c11, rfl, _⟩
            dsimp only
            rw [List.length_singleton]
            replace ST := Lib.hid (ST.out.call hbz)
            clear hbz
            go_wp2_with (with_reducible refine wpList_storeN rfl 49 (.tmp 19) (.tmp 121) rfl [.string ⟨#[]⟩, .string ⟨#[]⟩, .int .i64 0, .int .i64 0, .slice none 0 0] [.string rs, .string KEs, .int .i64 5000, .int .i64 1, .slice A11 1 c11] rfl rfl (lenG _ _ _ _ _ _ _ _ _ _) (sizeG _ _ _ _ _) (g_one _ _ _ _ _ _ _) ?_)
            intro Zs _ BZ
            replace ST := Lib.hid (ST.out.call BZ.out)
            clear BZ
            go_wp2_with fail
            refine region_put (by kernel_rfl) (by kernel_rfl) (fun j _ v => ((([fun v => v = .agg #[.string rs, .string KEs, .int .i64 5000, .int .i64 1, .slice A1 1 c1], fun v => v = .slice (some ⟨Y2.heap.size, 0, none⟩) 2 2, fun v => v = .slice (some ⟨Y2.heap.size, 0, none⟩) 1 2, fun v => v = .agg #[.string INVs, .string BOBs, .int .i64 0, .string ⟨#[]⟩, .slice A6 2 c6, .slice B6 bs.length d6], fun v => ∃ A c, v = (.tuple #[.agg #[.string rs, .string KEs, .int .i64 5000, .int .i64 1, .slice A 1 c], .string ⟨#[]⟩, .int .u8 12]), fun v => ∃ A c, v = (.tuple #[.agg #[.string rs, .string KEs, .int .i64 5000, .int .i64 1, .slice A 1 c], .string ⟨#[]⟩, .int .u8 12]), fun v => ∃ A c, v = .agg #[.string rs, .string KEs, .int .i64 5000, .int .i64 1, .slice A 1 c], fun v => v = .string ⟨#[]⟩, fun v => v = .int .u8 12, fun _ => True, fun _ => True, fun v => v = .string ⟨#[]⟩, fun v => v = .int .u8 12] : List (Value → Prop))).getD j (fun _ => True)) v) 9 10 6 22 130 49 49 [.string ⟨#[]⟩, .string ⟨#[]⟩, .int .i64 0, .int .i64 0, .slice none 0 0] (by kernel_rfl) (by kernel_rfl) _ _ _ rfl rfl ?halloc rfl rfl rfl rfl rfl (by kernel_rfl) (by kernel_rfl) (by decide) (by decide) sizeG3 (fun W v h => by
                obtain ⟨A, c, rfl⟩ := h
                exact ⟨_, rfl, rfl, g_one _ _ _ _ _ _ _⟩) (fun j v W W' hb h => h) (fun j v W b us _ hr _ h => h) ?hstep ?hend
            case halloc => exact fun W ev => exec_alloc rfl zeroG
            case hstep =>
              intro j o h1 h2 ho a' W' hB hF hD
              have ST := Lib.hid (ST.out.call hB)
              match j, ho with
              | 0, ho =>
                obtain rfl := Option.some.inj ho
                exact wp_load1 49 (.tmp 7) rfl _ 0 [.string rs, .string KEs, .int .i64 5000, .int .i64 1, .slice A1 1 c1] _ ((free_eval hF (by kernel_rfl)).trans rfl) ((show Row _ X.heap.size 49 [.string rs, .string KEs, .int .i64 5000, .int .i64 1, .slice A1 1 c1] from ST.out.fact (i := 8) rfl)).range Tryz.underlying49 rfl sizeG3 ⟨_, rfl, Below.refl _ _, rfl⟩
              | 1, ho =>
                obtain rfl := Option.some.inj ho
                exact wp_mv1 (.tmp 10) (.inl rfl) ⟨_, rfl, Below.refl _ _, (free_eval hF (by kernel_rfl)).trans rfl⟩
              | 2, ho =>
                obtain rfl := Option.some.inj ho
                have hx1 := dep_eval hD 1 (by kernel_rfl) rfl rfl
                replace hx1 : a'.eval (.tmp 126) = .slice (some ⟨Y2.heap.size, 0, none⟩) 2 2 := hx1
                exact wp_value (.slice (some ⟨Y2.heap.size, 0, none⟩) 1 2) (by
                  show (do let v ← Instr.sliceAt _ (a'.eval (.tmp 126)) _ _ _; pure (Next.value v) : Sem Next).run _ W' = _
                  rw [hx1, Sem.run_bind, show (Instr.sliceAt 50 (.slice (some ⟨Y2.heap.size, 0, none⟩) 2 2) (Option.map a'.eval none) (Option.map a'.eval (some (Operand.const (Value.int IntKind.i64 1)))) (Option.map a'.eval none)).run Tryz.prog W' = _ from slice_one _ _]; rfl) ⟨_, rfl, Below.refl _ _, rfl⟩
              | 3, ho =>
                obtain rfl := Option.some.inj ho
                exact wp_load1 41 (.tmp 11) rfl _ 0 [.string INVs, .string BOBs, .int .i64 0, .string ⟨#[]⟩, .slice A6 2 c6, .slice B6 bs.length d6] _ ((free_eval hF (by kernel_rfl)).trans rfl) ((show Row _ b 41 [.string INVs, .string BOBs, .int .i64 0, .string ⟨#[]⟩, .slice A6 2 c6, .slice B6 bs.length d6] from ST.out.fact (i := 6) rfl)).range Tryz.underlying41 rfl (sizeL6 _ _ _ _ _ _) ⟨_, rfl, Below.refl _ _, rfl⟩
              | 4, ho =>
                obtain rfl := Option.some.inj ho
                have hx0 := dep_eval hD 0 (by kernel_rfl) rfl rfl
                have hx2 := dep_eval hD 2 (by kernel_rfl) rfl rfl
                have hx3 := dep_eval hD 3 (by kernel_rfl) rfl rfl
                replace hx0 : a'.eval (.tmp 125) = .agg #[.string rs, .string KEs, .int .i64 5000, .int .i64 1, .slice A1 1 c1] := hx0
                replace hx2 : a'.eval (.tmp 127) = .slice (some ⟨Y2.heap.size, 0, none⟩) 1 2 := hx2
                replace hx3 : a'.eval (.tmp 128) = .agg #[.string INVs, .string BOBs, .int .i64 0, .string ⟨#[]⟩, .slice A6 2 c6, .slice B6 bs.length d6] := hx3
                have VQ := Lib.hid (verify_any rs KEs INVs BOBs ⟨#[]⟩ 5000 1 0 6000 A1 (some ⟨Y2.heap.size, 0, none⟩) A6 B6 1 c1 1 2 2 c6 bs.length d6 [⟨TX, 1000, 0⟩] [((us ++ (⟨#[120]⟩ : ByteArray)), ⟨#[110, 111, 110, 101]⟩)] (TwoH (XC (byteL us) (byteL rs) (byteL TX) (byteL Cs) (byteL pw) 1 g bs)) bs _ (show Rds _ _ A1 (ncs [⟨TX, 1000, 0⟩]) from ST.out.fact (i := 10) rfl) rfl (by decide)
                  (fun _ => ⟨Y2.heap.size, 0, rfl, (show Row _ Y2.heap.size 54 [.string (us ++ (⟨#[120]⟩ : ByteArray)), .string ⟨#[110, 111, 110, 101]⟩, .string us, .string SE] from ST.out.fact (i := 7) rfl).lt, fun j u hu => by
                  rw [Nat.zero_add, (show Row _ Y2.heap.size 54 [.string (us ++ (⟨#[120]⟩ : ByteArray)), .string ⟨#[110, 111, 110, 101]⟩, .string us, .string SE] from ST.out.fact (i := 7) rfl).cell]
                  match j, hu with
                  | 0, hu => exact hu
                  | 1, hu => exact hu
                  | j + 2, hu => exact absurd hu (by simp [hds, hdC])⟩) rfl (by decide) (fun h hh => HUS.out h (by rw [List.mem_singleton] at hh; subst hh; exact List.mem_cons_self ..)) (show Rds _ _ A6 (hds (TwoH (XC (byteL us) (byteL rs) (byteL TX) (byteL Cs) (byteL pw) 1 g bs))) from ST.out.fact (i := 5) rfl) rfl (by decide) (HTW.out pw (by omega)) HBY.out rfl (by have := HM.out; omega) (show Bs _ _ B6 bs from ST.out.fact (i := 4) rfl) (by omega) (by decide) (by decide) (by decide) HN1.out (HK.out.below ST.out.bw) (HS.out.below ST.out.bw))
                rw [verL_wrong (HBD.out 0 6000 (by decide) (by decide) (by decide) (by decide)) (XO.out.pres _ _ _) (XOk.wrong0 _ _ _ _ FK0.out)] at VQ
                refine wp_call1 25 _ _ rfl #[.agg #[.string rs, .string KEs, .int .i64 5000, .int .i64 1, .slice A1 1 c1], .slice (some ⟨Y2.heap.size, 0, none⟩) 1 2, .agg #[.string INVs, .string BOBs, .int .i64 0, .string ⟨#[]⟩, .slice A6 2 c6, .slice B6 bs.length d6], .int .i64 6000] (by simp only [List.map_toArray, List.map_cons, List.map_nil, hx0, hx2, hx3]; rfl) (enters_of Tryz.func25 (by kernel_rfl) rfl) (VQ.out.mono ?_)
                rintro e W2 ⟨hb, A, c, rfl, _⟩
                exact ⟨_, rfl, _, rfl, hb, A, c, rfl⟩
              | 5, ho =>
                obtain rfl := Option.some.inj ho
                exact wp_mv1 (.tmp 129) (.inl rfl) ⟨_, rfl, Below.refl _ _, dep_eval hD 4 (by kernel_rfl) rfl rfl⟩
              | 6, ho =>
                obtain rfl := Option.some.inj ho
                obtain ⟨A, c, hm⟩ := dep_eval hD 5 (by kernel_rfl) rfl rfl
                exact wp_ext1 (.tmp 124) 0 rfl _ _ hm rfl ⟨_, rfl, Below.refl _ _, A, c, rfl⟩
              | 7, ho =>
                obtain rfl := Option.some.inj ho
                obtain ⟨A, c, hm⟩ := dep_eval hD 5 (by kernel_rfl) rfl rfl
                exact wp_ext1 (.tmp 124) 1 rfl _ _ hm rfl ⟨_, rfl, Below.refl _ _, rfl⟩
              | 8, ho =>
                obtain rfl := Option.some.inj ho
                obtain ⟨A, c, hm⟩ := dep_eval hD 5 (by kernel_rfl) rfl rfl
                exact wp_ext1 (.tmp 124) 2 rfl _ _ hm rfl ⟨_, rfl, Below.refl _ _, rfl⟩
              | 9, ho => exact absurd rfl h1
              | 10, ho => exact absurd rfl h2
              | 11, ho =>
                obtain rfl := Option.some.inj ho
                exact wp_mv1 (.tmp 131) (.inr rfl) ⟨_, rfl, Below.refl _ _, dep_eval hD 7 (by kernel_rfl) rfl rfl⟩
              | 12, ho =>
                obtain rfl := Option.some.inj ho
                exact wp_mv1 (.tmp 132) (.inr rfl) ⟨_, rfl, Below.refl _ _, dep_eval hD 8 (by kernel_rfl) rfl rfl⟩
              | j + 13, ho => simp at ho
            case hend => as_aux_lemma =>
              intro vs W' b' us' hB hlen hv hb h8 h6 hR
              obtain ⟨v0, v1, v2, v3, v4, v5, v6, v7, v8, v9, v10, v11, v12, rfl⟩ : ∃ v0 v1 v2 v3 v4 v5 v6 v7 v8 v9 v10 v11 v12, vs = [v0, v1, v2, v3, v4, v5, v6, v7, v8, v9, v10, v11, v12] := by
                match vs, hlen with
                | [v0, v1, v2, v3, v4, v5, v6, v7, v8, v9, v10, v11, v12], _ => exact ⟨_, _, _, _, _, _, _, _, _, _, _, _, _, rfl⟩
              obtain rfl : v12 = .int .u8 12 := hv 12 _ _ v12 (by decide) rfl rfl rfl
              obtain rfl : v9 = .pointer (some ⟨b', 0, none⟩) := Option.some.inj h8
              replace ST := Lib.hid (ST.out.call hB)
              clear hv hlen h8 h6 hb hB hR
              simp only [putL, Act.put, List.setIfInBounds_toArray, List.set_cons_zero, List.set_cons_succ]
              have l0 := ((show Row _ w.heap.size 64 [.string us, .string rs, .string pw, .string ty] from ST.out.fact (i := 11) rfl)).cell 0
              have k0 := ((show Row _ Z1.heap.size 49 [.string rs, .string KEs, .int .i64 5000, .int .i64 1, .slice A9 1 c9] from ST.out.fact (i := 2) rfl)).cell 0; have k1 := ((show Row _ Z1.heap.size 49 [.string rs, .string KEs, .int .i64 5000, .int .i64 1, .slice A9 1 c9] from ST.out.fact (i := 2) rfl)).cell 1; have k2 := ((show Row _ Z1.heap.size 49 [.string rs, .string KEs, .int .i64 5000, .int .i64 1, .slice A9 1 c9] from ST.out.fact (i := 2) rfl)).cell 2; have k3 := ((show Row _ Z1.heap.size 49 [.string rs, .string KEs, .int .i64 5000, .int .i64 1, .slice A9 1 c9] from ST.out.fact (i := 2) rfl)).cell 3; have k4 := ((show Row _ Z1.heap.size 49 [.string rs, .string KEs, .int .i64 5000, .int .i64 1, .slice A9 1 c9] from ST.out.fact (i := 2) rfl)).cell 4
              skip; simp only [List.getElem?_cons_succ, List.getElem?_cons_zero] at k0 k1 k2 k3 k4
              have i0 := ((show Row _ Z3.heap.size 49 [.string rs, .string KEs, .int .i64 5000, .int .i64 1, .slice A10 1 c10] from ST.out.fact (i := 0) rfl)).cell 0; have i1 := ((show Row _ Z3.heap.size 49 [.string rs, .string KEs, .int .i64 5000, .int .i64 1, .slice A10 1 c10] from ST.out.fact (i := 0) rfl)).cell 1; have i2 := ((show Row _ Z3.heap.size 49 [.string rs, .string KEs, .int .i64 5000, .int .i64 1, .slice A10 1 c10] from ST.out.fact (i := 0) rfl)).cell 2; have i3 := ((show Row _ Z3.heap.size 49 [.string rs, .string KEs, .int .i64 5000, .int .i64 1, .slice A10 1 c10] from ST.out.fact (i := 0) rfl)).cell 3; have i4 := ((show Row _ Z3.heap.size 49 [.string rs, .string KEs, .int .i64 5000, .int .i64 1, .slice A10 1 c10] from ST.out.fact (i := 0) rfl)).cell 4
              simp only [List.getElem?_cons_succ, List.getElem?_cons_zero] at i0 i1 i2 i3 i4
              simp only [List.getElem?_cons_zero] at l0
              go_wp2_with fail
              clear l0 k0 k1 k2 k3 k4 i0 i1 i2 i3 i4
              refine (same07_any rs KEs 5000 1 A9 A10 1 c9 c10 [⟨TX, 1000, 1⟩] _ (show Rds _ _ A9 (ncs [⟨TX, 1000, 1⟩]) from ST.out.fact (i := 3) rfl) (show Rds _ _ A10 (ncs [⟨TX, 1000, 1⟩]) from ST.out.fact (i := 1) rfl) rfl (by decide)).mono ?_
              rintro e W3 ⟨rfl, hb⟩
              replace ST := Lib.hid (ST.out.call hb)
              clear hb
              go_wp2_with fail
              obtain ⟨V, hV⟩ : ∃ V, V = ansL 0 true (XC (byteL us) (byteL rs) (byteL TX) (byteL Cs) (byteL ty) 1 g bs) := ⟨_, rfl⟩
              have HV := Lib.hid hV
              clear hV
              refine region_put (by kernel_rfl) (by kernel_rfl) (fun j W v => ((([.eq (.agg #[.string rs, .string TX, .string ⟨#[]⟩, .bool true, .bool false]), .eq (.pointer (some ⟨w.heap.size, 0, none⟩)), .eq (.string us), .eq (.bool g), .eq (.agg #[.string us, .string ⟨#[]⟩, .string ⟨#[]⟩, .string ⟨#[]⟩, .string ⟨#[]⟩, .string Cs, .string ⟨#[]⟩, .int .i64 1, .bool g]), .eq (.pointer (some ⟨w.heap.size, 3, none⟩)), .eq (.string ty), .eq (.slice B m d), .inv, .ans, .ans, .msg, .err, .any, .any, .err] : List Ask)).getD j .any).holds V bs B m d W v) 13 14 11 25 170 41 41 Z6 (by kernel_rfl) (by kernel_rfl) _ _ _ rfl rfl ?halloc rfl rfl rfl rfl rfl (by kernel_rfl) (by kernel_rfl) (by decide) (by decide) size6 (fun W v h => Ask.cells h) (fun j v W W' hb h => Ask.below hb h) (fun j v W b us _ hr _ h => Ask.setRow hr h) ?hstep ?hend
              case halloc => exact fun W ev => exec_alloc rfl zeroM6a
              case hstep =>
                intro j o h1 h2 ho a' W hB hF hD
                have STW := ST.out.call hB
                match j, ho with
                | 0, ho =>
                  obtain rfl := Option.some.inj ho
                  exact wp_load1 36 (.tmp 8) rfl _ 0 [.string rs, .string TX, .string ⟨#[]⟩, .bool true, .bool false] _ ((free_eval hF (by kernel_rfl)).trans rfl) ((show Row _ (X.heap.size + 1) 36 [.string rs, .string TX, .string ⟨#[]⟩, .bool true, .bool false] from ST.out.fact (i := 9) rfl).below hB).range Tryz.underlying36 rfl sizeCh5 ⟨_, rfl, Below.refl _ _, rfl⟩
                | 1, ho =>
                  obtain rfl := Option.some.inj ho
                  exact wp_fa1 64 (.tmp 3) 0 rfl w.heap.size 0 ((free_eval hF (by kernel_rfl)).trans rfl) (fun w => by kernel_rfl) ⟨_, rfl, Below.refl _ _, rfl⟩
                | 2, ho =>
                  obtain rfl := Option.some.inj ho
                  exact wp_ldc1 9 (.tmp 161) rfl w.heap.size 0 (.string us) (dep_eval hD 1 (by kernel_rfl) rfl rfl) (((show Row _ w.heap.size 64 [.string us, .string rs, .string pw, .string ty] from ST.out.fact (i := 11) rfl).below hB).cell 0) _ Tryz.underlying9 rfl ⟨_, rfl, Below.refl _ _, rfl⟩
                | 3, ho =>
                  obtain rfl := Option.some.inj ho
                  exact wp_mv1 (.tmp 2) (.inl rfl) ⟨_, rfl, Below.refl _ _, (free_eval hF (by kernel_rfl)).trans rfl⟩
                | 4, ho =>
                  obtain rfl := Option.some.inj ho
                  have hx1 := dep_eval hD 2 (by kernel_rfl) rfl rfl
                  have hx2 := dep_eval hD 3 (by kernel_rfl) rfl rfl
                  replace hx1 : a'.eval (.tmp 162) = .string us := hx1
                  replace hx2 : a'.eval (.tmp 163) = .bool g := hx2
                  exact wp_build1 23 _ rfl [(0, .string us), (5, .string ⟨#[99]⟩), (7, .int .i64 1), (8, .bool g)] (by simp only [List.map_toArray, List.map_cons, List.map_nil, hx1, hx2]; rfl) #[.string us, .string ⟨#[]⟩, .string ⟨#[]⟩, .string ⟨#[]⟩, .string ⟨#[]⟩, .string Cs, .string ⟨#[]⟩, .int .i64 1, .bool g] (by kernel_rfl) ⟨_, rfl, Below.refl _ _, rfl⟩
                | 5, ho =>
                  obtain rfl := Option.some.inj ho
                  exact wp_fa1 64 (.tmp 3) 3 rfl w.heap.size 3 ((free_eval hF (by kernel_rfl)).trans rfl) (fun w => by kernel_rfl) ⟨_, rfl, Below.refl _ _, rfl⟩
                | 6, ho =>
                  obtain rfl := Option.some.inj ho
                  exact wp_ldc1 9 (.tmp 165) rfl w.heap.size 3 (.string ty) (dep_eval hD 5 (by kernel_rfl) rfl rfl) (((show Row _ w.heap.size 64 [.string us, .string rs, .string pw, .string ty] from ST.out.fact (i := 11) rfl).below hB).cell 3) _ Tryz.underlying9 rfl ⟨_, rfl, Below.refl _ _, rfl⟩
                | 7, ho =>
                  obtain rfl := Option.some.inj ho
                  exact wp_mv1 (.tmp 1) (.inl rfl) ⟨_, rfl, Below.refl _ _, (free_eval hF (by kernel_rfl)).trans rfl⟩
                | 8, ho =>
                  obtain rfl := Option.some.inj ho
                  have hx1 := dep_eval hD 7 (by kernel_rfl) rfl rfl
                  replace hx1 : a'.eval (.tmp 167) = .slice B m d := hx1
                  refine wp_call1 33 _ _ rfl #[.slice B m d] (by simp only [List.map_toArray, List.map_cons, List.map_nil, hx1]) (enters_of Tryz.func33 (by kernel_rfl) rfl) ((invite_any B m d W).mono ?_)
                  rintro e W2 ⟨hb, b, rfl, hr⟩
                  exact ⟨_, rfl, _, rfl, hb, b, rfl, hr⟩
                | 9, ho =>
                  obtain rfl := Option.some.inj ho
                  have hx0 := dep_eval hD 0 (by kernel_rfl) rfl rfl
                  have hx2 := dep_eval hD 4 (by kernel_rfl) rfl rfl
                  have hx4 := dep_eval hD 6 (by kernel_rfl) rfl rfl
                  have hx3 := dep_eval hD 8 (by kernel_rfl) rfl rfl
                  replace hx0 : a'.eval (.tmp 160) = .agg #[.string rs, .string TX, .string ⟨#[]⟩, .bool true, .bool false] := hx0
                  replace hx2 : a'.eval (.tmp 164) = .agg #[.string us, .string ⟨#[]⟩, .string ⟨#[]⟩, .string ⟨#[]⟩, .string ⟨#[]⟩, .string Cs, .string ⟨#[]⟩, .int .i64 1, .bool g] := hx2
                  replace hx4 : a'.eval (.tmp 166) = .string ty := hx4
                  refine wp_call1 22 _ _ rfl #[.agg #[.string rs, .string TX, .string ⟨#[]⟩, .bool true, .bool false], .agg #[.string us, .string ⟨#[]⟩, .string ⟨#[]⟩, .string ⟨#[]⟩, .string ⟨#[]⟩, .string Cs, .string ⟨#[]⟩, .int .i64 1, .bool g], .string ty, a'.eval (.tmp 168)] (by simp only [List.map_toArray, List.map_cons, List.map_nil, hx0, hx2, hx4]) (enters_of Tryz.func22 (by kernel_rfl) rfl) ((answer_inv rs TX us Cs ty g 1 B m d bs W _ hx3 HBY.out HM.out (by omega) ((HB.out.below STW.bw).up STW.bw.size) HNIL.out (by omega) (by rw [← HTX.out, txt_size]; decide) (by omega) (by decide) (by omega) (HK.out.below STW.bw) (HS.out.below STW.bw)).mono ?_)
                  rintro e W2 ⟨u, rfl, hb, hu⟩
                  rw [← HV.out] at hu
                  exact ⟨_, rfl, _, rfl, hb, hu⟩
                | 10, ho =>
                  obtain rfl := Option.some.inj ho
                  exact wp_mv1 (.tmp 169) (.inl rfl) ⟨_, rfl, Below.refl _ _, dep_eval hD 9 (by kernel_rfl) rfl rfl⟩
                | 11, ho =>
                  obtain rfl := Option.some.inj ho
                  obtain ⟨m, hm, h3⟩ := dep_eval hD 10 (by kernel_rfl) rfl rfl
                  exact wp_ext1 (.tmp 159) 0 rfl _ _ hm rfl ⟨_, rfl, Below.refl _ _, h3⟩
                | 12, ho =>
                  obtain rfl := Option.some.inj ho
                  obtain ⟨m, hm, h3⟩ := dep_eval hD 10 (by kernel_rfl) rfl rfl
                  exact wp_ext1 (.tmp 159) 1 rfl _ _ hm rfl ⟨_, rfl, Below.refl _ _, rfl⟩
                | 13, ho => exact absurd rfl h1
                | 14, ho => exact absurd rfl h2
                | 15, ho =>
                  obtain rfl := Option.some.inj ho
                  exact wp_mv1 (.tmp 171) (.inr rfl) ⟨_, rfl, Below.refl _ _, dep_eval hD 12 (by kernel_rfl) rfl rfl⟩
                | j + 16, ho => simp at ho
              case hend => as_aux_lemma =>
                intro vs W bn un hB hlen hv hb h8 h6 hR
                obtain ⟨v0, v1, v2, v3, v4, v5, v6, v7, v8, v9, v10, v11, v12, v13, v14, v15, rfl⟩ : ∃ v0 v1 v2 v3 v4 v5 v6 v7 v8 v9 v10 v11 v12 v13 v14 v15, vs = [v0, v1, v2, v3, v4, v5, v6, v7, v8, v9, v10, v11, v12, v13, v14, v15] := by
                  match vs, hlen with
                  | [v0, v1, v2, v3, v4, v5, v6, v7, v8, v9, v10, v11, v12, v13, v14, v15], _ => exact ⟨_, _, _, _, _, _, _, _, _, _, _, _, _, _, _, _, rfl⟩
                obtain rfl : v0 = .agg #[.string rs, .string TX, .string ⟨#[]⟩, .bool true, .bool false] := hv 0 _ _ v0 (by decide) rfl rfl rfl
                have e6 : AnsM V bs W v11 := hv 11 _ _ v11 (by decide) rfl rfl rfl
                obtain rfl : v12 = .int .u8 (errA V) := hv 12 _ _ v12 (by decide) rfl rfl rfl
                obtain rfl : v15 = .int .u8 (errA V) := hv 15 _ _ v15 (by decide) rfl rfl rfl
                obtain rfl : v13 = .pointer (some ⟨bn, 0, none⟩) := Option.some.inj h8
                obtain rfl : v11 = .agg un.toArray := Option.some.inj h6
                replace ST := Lib.hid (ST.out.call hB)
                have RM := Lib.hid hR; have E6 := Lib.hid e6
                clear hv hlen h8 h6 hb hB hR e6
                simp only [putL, Act.put, List.setIfInBounds_toArray, List.set_cons_zero, List.set_cons_succ]
                obtain rfl : V = some (valA (XC (byteL us) (byteL rs) (byteL TX) (byteL Cs) (byteL ty) 1 g bs)) := by rw [HV.out, ans_XC (by decide) (by decide) (by simp), if_pos XO.out.cl]
                clear HV
                rw [show errA (some (valA (XC (byteL us) (byteL rs) (byteL TX) (byteL Cs) (byteL ty) 1 g bs))) = 0 from rfl]
                obtain ⟨A7, c7, B7, d7, eu, hA7, hB7⟩ := E6.out
                obtain rfl : un = [.string INVs, .string BOBs, .int .i64 0, .string ⟨#[]⟩, .slice A7 2 c7, .slice B7 bs.length d7] := by injection eu with eu; simpa using congrArg Array.toList eu
                replace ST := Lib.hid (((ST.out.add (stab_row RM.out (by simp))).add (stab_rds hA7 (fun b o s e => by simp))).add (stab_bs hB7 (fun ad e => by simp)))
                clear eu hA7 hB7 E6 RM
                have n4 := ((show Row _ bn 41 [.string INVs, .string BOBs, .int .i64 0, .string ⟨#[]⟩, .slice A7 2 c7, .slice B7 bs.length d7] from ST.out.fact (i := 2) rfl)).cell 4; have m4 := ((show Row _ b 41 [.string INVs, .string BOBs, .int .i64 0, .string ⟨#[]⟩, .slice A6 2 c6, .slice B6 bs.length d6] from ST.out.fact (i := 9) rfl)).cell 4
                simp only [List.getElem?_cons_succ, List.getElem?_cons_zero] at n4 m4
                go_wp2_with (first | (with_reducible refine wpList_loadR rfl 49 (.tmp 7) rfl (show Row _ X.heap.size 49 [.string rs, .string KEs, .int .i64 5000, .int .i64 1, .slice A1 1 c1] from ST.out.fact (i := 11) rfl) rfl Tryz.underlying49 rfl (sizeG _ _ _ _ _) ?_) | (with_reducible refine wpList_loadR rfl 41 (.tmp 25) rfl (show Row _ bn 41 [.string INVs, .string BOBs, .int .i64 0, .string ⟨#[]⟩, .slice A7 2 c7, .slice B7 bs.length d7] from ST.out.fact (i := 2) rfl) rfl Tryz.underlying41 rfl (sizeL6 _ _ _ _ _ _) ?_))
                clear n4 m4
                have VQ := Lib.hid (verify_any rs KEs INVs BOBs ⟨#[]⟩ 5000 1 0 6000 A1 (some ⟨Y2.heap.size, 0, none⟩) A7 B7 1 c1 2 2 2 c7 bs.length d7 [⟨TX, 1000, 0⟩] [((us ++ (⟨#[120]⟩ : ByteArray)), ⟨#[110, 111, 110, 101]⟩), (us, SE)] (TwoH (XC (byteL us) (byteL rs) (byteL TX) (byteL Cs) (byteL ty) 1 g bs)) bs _ (show Rds _ _ A1 (ncs [⟨TX, 1000, 0⟩]) from ST.out.fact (i := 13) rfl) rfl (by decide)
                  (fun _ => ⟨Y2.heap.size, 0, rfl, (show Row _ Y2.heap.size 54 [.string (us ++ (⟨#[120]⟩ : ByteArray)), .string ⟨#[110, 111, 110, 101]⟩, .string us, .string SE] from ST.out.fact (i := 10) rfl).lt, fun j u hu => by rw [Nat.zero_add, (show Row _ Y2.heap.size 54 [.string (us ++ (⟨#[120]⟩ : ByteArray)), .string ⟨#[110, 111, 110, 101]⟩, .string us, .string SE] from ST.out.fact (i := 10) rfl).cell]; exact hu⟩) rfl (by decide) HUS.out (show Rds _ _ A7 (hds (TwoH (XC (byteL us) (byteL rs) (byteL TX) (byteL Cs) (byteL ty) 1 g bs))) from ST.out.fact (i := 1) rfl) rfl (by decide) (HTW.out ty (by omega)) HBY.out rfl (by have := HM.out; omega) (show Bs _ _ B7 bs from ST.out.fact (i := 0) rfl) (by omega) (by decide) (by decide) (by decide) HN1.out (HK.out.below ST.out.bw) (HS.out.below ST.out.bw))
                by_cases hT : respL (byteL SE) (byteL TX) 1 (byteL Cs) g (byteL BOBs) (byteL INVs) bs = XP (byteL us) (byteL rs) (byteL TX) (byteL Cs) (byteL ty) 1 g bs
                · rw [ver_one (j := 1) (s := SE) XO.out (HBD.out 0 6000 (by decide) (by decide) (by decide) (by decide)) FK.out rfl hT, if_neg (by decide), if_neg (by decide), str_byteL] at VQ
                  have HVE := Lib.hid (show valA (XC (byteL us) (byteL rs) (byteL TX) (byteL Cs) (byteL ty) 1 g bs) = valA (XC (byteL us) (byteL rs) (byteL TX) (byteL Cs) (byteL pw) 1 g bs) by rw [XC_eq, XC_eq, ← hT, RSE.out])
                  clear hT
                  refine VQ.out.mono ?_
                  clear VQ
                  rintro e Z7 ⟨hbz, A12, c12, rfl, _⟩
                  dsimp only
                  rw [List.length_singleton]
                  replace ST := Lib.hid (ST.out.call hbz)
                  clear hbz
                  go_wp2_with (with_reducible refine wpList_storeN rfl 49 (.tmp 27) (.tmp 194) rfl [.string ⟨#[]⟩, .string ⟨#[]⟩, .int .i64 0, .int .i64 0, .slice none 0 0] [.string rs, .string KEs, .int .i64 5000, .int .i64 1, .slice A12 1 c12] rfl rfl (lenG _ _ _ _ _ _ _ _ _ _) (sizeG _ _ _ _ _) (g_one _ _ _ _ _ _ _) ?_)
                  intro Z8 _ BZ
                  replace ST := Lib.hid (ST.out.call BZ.out)
                  clear BZ
                  go_wp2_with fail
                  obtain ⟨b6, o6, hA6, hb6, hc6⟩ := (show Rds _ _ A6 (hds (TwoH (XC (byteL us) (byteL rs) (byteL TX) (byteL Cs) (byteL pw) 1 g bs))) from ST.out.fact (i := 8) rfl) (by show 0 < 2 * 2; decide)
                  obtain ⟨b7, o7, hA7, hb7, hc7⟩ := (show Rds _ _ A7 (hds (TwoH (XC (byteL us) (byteL rs) (byteL TX) (byteL Cs) (byteL ty) 1 g bs))) from ST.out.fact (i := 1) rfl) (by show 0 < 2 * 2; decide)
                  have H6 := Lib.hid (show Z8.rangeAt b6 (o6 + 1 * 2) [.string AUTHs, .string (strOfNums (valA (XC (byteL us) (byteL rs) (byteL TX) (byteL Cs) (byteL pw) 1 g bs)))] from Rds.range (B := 0) hc6 _ _ (fun j u hu => hds_at (k := 1) (p := (AUTHs, _)) rfl j u hu))
                  have H7 := Lib.hid (show Z8.rangeAt b7 (o7 + 1 * 2) [.string AUTHs, .string (strOfNums (valA (XC (byteL us) (byteL rs) (byteL TX) (byteL Cs) (byteL pw) 1 g bs)))] from HVE.out ▸ Rds.range (B := 0) hc7 _ _ (fun j u hu => hds_at (k := 1) (p := (AUTHs, _)) rfl j u hu))
                  have q1 := fun x : BW Z8 => (show Row _ bn 41 [.string INVs, .string BOBs, .int .i64 0, .string ⟨#[]⟩, .slice A7 2 c7, .slice B7 bs.length d7] from ST.out.fact (i := 2) rfl).later x 4
                  have q2 := fun x : BW Z8 => (show Row _ b 41 [.string INVs, .string BOBs, .int .i64 0, .string ⟨#[]⟩, .slice A6 2 c6, .slice B6 bs.length d6] from ST.out.fact (i := 9) rfl).later x 4
                  simp only [List.getElem?_cons_succ, List.getElem?_cons_zero, hA6, hA7] at q1 q2
                  have HB6 := Lib.hid hb6; have HB7 := Lib.hid hb7
                  clear hc6 hc7 hb6 hb7
                  have gH := guardH
                  have sH := sameH AUTHs (strOfNums (valA (XC (byteL us) (byteL rs) (byteL TX) (byteL Cs) (byteL pw) 1 g bs)))
                  generalize strOfNums (valA (XC (byteL us) (byteL rs) (byteL TX) (byteL Cs) (byteL pw) 1 g bs)) = VP at H6 H7 sH
                  refine region_bw (by kernel_rfl) (by kernel_rfl) ?_
                  iterate 17 go_big_quiet_step (fail)
                  go_big_quiet_want
                  refine quiet_range 69 (.tmp 213) rfl b7 (o7 + 1 * 2) rfl _ _ H7.out HB7.out Tryz.underlying69 rfl (sizeH _ _) ?_
                  simp only [Act.put, List.setIfInBounds_toArray, List.set_cons_zero, List.set_cons_succ]
                  go_big_quiet_on
                  iterate 7 go_big_quiet_step (fail)
                  go_big_quiet_want
                  refine quiet_range 69 (.tmp 221) rfl b6 (o6 + 1 * 2) rfl _ _ H6.out HB6.out Tryz.underlying69 rfl (sizeH _ _) ?_
                  simp only [Act.put, List.setIfInBounds_toArray, List.set_cons_zero, List.set_cons_succ]
                  go_big_quiet_on
                  iterate 3 go_big_quiet_step (fail)
                  refine wpQuiet_nil ?_
                  rintro _ ⟨x, rfl⟩
                  obtain ⟨Wb, hx⟩ : ∃ Wb, Wb = x.w := ⟨_, rfl⟩
                  replace ST := Lib.hid (show Mine w Wb _ _ by rw [hx]; exact ST.out.call x.h)
                  rw [← hx]
                  clear hx x q1 q2 gH sH H6 H7 HB6 HB7 hA6 hA7
                  go_wp2_with (first | (with_reducible refine wpList_loadR rfl 41 (.tmp 11) rfl (show Row _ b 41 [.string INVs, .string BOBs, .int .i64 0, .string ⟨#[]⟩, .slice A6 2 c6, .slice B6 bs.length d6] from ST.out.fact (i := 9) rfl) rfl Tryz.underlying41 rfl (sizeL6 _ _ _ _ _ _) ?_) | (with_reducible refine wpList_storeN rfl 41 (.tmp 30) (.tmp 226) rfl [.string ⟨#[]⟩, .string ⟨#[]⟩, .int .i64 0, .string ⟨#[]⟩, .slice none 0 0, .slice none 0 0] [.string INVs, .string BOBs, .int .i64 0, .string ⟨#[]⟩, .slice A6 2 c6, .slice B6 bs.length d6] rfl rfl (lenL6 _ _ _ _ _ _ _ _ _ _ _ _) (sizeL6 _ _ _ _ _ _) (p6_one _ _ _ _ _ _ _ _ _ _) ?_))
                  intro Wo RO BO
                  replace ST := Lib.hid (ST.out.join BO.out (Nat.le_refl _) RO.out)
                  clear RO BO
                  have V0 := Lib.hid (VX.new' Wo 5 0 [] rfl (by decide))
                  have OW := Lib.hid (show World.ownsRow (Wo.alloc (.cells #[] 5)) Wo.heap.size 5 1 (.slice (some ⟨Wo.heap.size, 0, none⟩) 0 0) 0 (U8 []) from V0.out.o)
                  have HBo := Lib.hid ((HB.out.below (bthen ST.out.bw V0.out.bw)).up (bthen ST.out.bw V0.out.bw).size)
                  go_wp2_with (with_reducible refine wpList_append_bytes rfl (.tmp 227) (.tmp 228) rfl Wo.heap.size (.slice (some ⟨Wo.heap.size, 0, none⟩) 0 0) 0 [] rfl OW.out B m d bs rfl HBo.out HM.out HNIL.out (by omega) V0.out.bw.size ?_)
                  intro v1 w1 h1 h2
                  have h3 : w1.ownsRow Wo.heap.size 5 1 v1 m (U8 bs) := by simpa using h1
                  have VX1 := Lib.hid (show VX 5 1 Wo v1 m (U8 bs) w1 from ⟨h3, V0.out.bw.grown h2 V0.out.bw.size (fun k hk => by simp [Value.ownBlock] at hk; omega)⟩)
                  clear h1 h2 h3 V0 OW HBo
                  go_wp2_with (with_reducible refine wpList_push120 rfl (.tmp 229) (.tmp 230) rfl v1 m (U8 bs) rfl VX1.out rfl (by omega) ?_)
                  intro v2 w2 VX2
                  clear VX1
                  obtain ⟨_, hn0, _⟩ | ⟨gb, gc, rfl, _, hg1, hg2, hgc⟩ := VX2.out.form
                  · omega
                  replace ST := Lib.hid ((ST.out.call VX2.out.bw).add (stab_bs (A := some ⟨gb, 0, none⟩) (xs := (bs ++ [120])) (fun _ => ⟨⟨gb, 0, none⟩, rfl, hg2, fun j x hx => by
                    rw [Addr.add_mid, Nat.zero_add]
                    refine hgc j _ ?_
                    rw [show U8 bs ++ [Value.int .u8 120] = U8 (bs ++ [120]) by simp [U8]]
                    exact U8_get hx⟩) (fun ad e => by
                    injection e with e
                    subst e
                    have hl := (ST.out.row (i := 0) rfl).lt
                    simp
                    omega)))
                  clear hg1 hg2 hgc VX2
                  have f5 := (ST.out.row (i := 0) rfl).frozen 5
                  have e5 := (ST.out.row (i := 0) rfl).cell 5
                  simp only [List.getElem?_cons_succ, List.getElem?_cons_zero] at e5
                  have STq := Lib.hid (Mine.setCell (off := 5) (.slice (some ⟨gb, 0, none⟩) (m + 1) gc) ST.out (i := 0) rfl rfl)
                  simp only [List.set_cons_zero, List.set_cons_succ] at STq
                  clear ST
                  have ST := STq
                  clear STq
                  have o0 := (ST.out.row (i := 0) rfl).cell 0
                  clear o0
                  go_wp2_with (first | (with_reducible refine wpList_loadR rfl 49 (.tmp 7) rfl (show Row _ X.heap.size 49 [.string rs, .string KEs, .int .i64 5000, .int .i64 1, .slice A1 1 c1] from ST.out.fact (i := 12) rfl) rfl Tryz.underlying49 rfl (sizeG _ _ _ _ _) ?_) | (with_reducible refine wpList_loadR rfl 41 (.tmp 30) rfl (show Row _ Wb.heap.size 41 [.string INVs, .string BOBs, .int .i64 0, .string ⟨#[]⟩, .slice A6 2 c6, .slice (some ⟨gb, 0, none⟩) (m + 1) gc] from ST.out.row (i := 0) rfl) rfl Tryz.underlying41 rfl (sizeL6 _ _ _ _ _ _) ?_))
                  clear f5 e5
                  have VQ := Lib.hid (verify_any rs KEs INVs BOBs ⟨#[]⟩ 5000 1 0 6000 A1 (some ⟨Y2.heap.size, 0, none⟩) A6 (some ⟨gb, 0, none⟩) 1 c1 2 2 2 c6 (m + 1) gc [⟨TX, 1000, 0⟩] [((us ++ (⟨#[120]⟩ : ByteArray)), ⟨#[110, 111, 110, 101]⟩), (us, SE)] (TwoH (XC (byteL us) (byteL rs) (byteL TX) (byteL Cs) (byteL pw) 1 g bs)) (bs ++ [120]) _ (show Rds _ _ A1 (ncs [⟨TX, 1000, 0⟩]) from ST.out.fact (i := 14) rfl) rfl (by decide)
                    (fun _ => ⟨Y2.heap.size, 0, rfl, (show Row _ Y2.heap.size 54 [.string (us ++ (⟨#[120]⟩ : ByteArray)), .string ⟨#[110, 111, 110, 101]⟩, .string us, .string SE] from ST.out.fact (i := 11) rfl).lt, fun j u hu => by rw [Nat.zero_add, (show Row _ Y2.heap.size 54 [.string (us ++ (⟨#[120]⟩ : ByteArray)), .string ⟨#[110, 111, 110, 101]⟩, .string us, .string SE] from ST.out.fact (i := 11) rfl).cell]; exact hu⟩) rfl (by decide) HUS.out (show Rds _ _ A6 (hds (TwoH (XC (byteL us) (byteL rs) (byteL TX) (byteL Cs) (byteL pw) 1 g bs))) from ST.out.fact (i := 9) rfl) rfl (by decide) (HTW.out pw (by omega)) (fun x hx => (List.mem_append.1 hx).elim (HBY.out x) (fun h => by rw [List.mem_singleton] at h; subst h; decide)) (by have := HM.out; rw [List.length_append, List.length_singleton]; omega) (by have := HM.out; omega) (show Bs _ _ (some ⟨gb, 0, none⟩) (bs ++ [120]) from ST.out.fact (i := 0) rfl) (by omega) (by decide) (by decide) (by decide) HN1.out (HK.out.below ST.out.bw) (HS.out.below ST.out.bw))
                  by_cases hP : respL (byteL SE) (byteL TX) 1 (byteL Cs) g (byteL BOBs) (byteL INVs) (bs ++ [120]) = XP (byteL us) (byteL rs) (byteL TX) (byteL Cs) (byteL pw) 1 g bs
                  · rw [ver_one (j := 1) (s := SE) XO.out (HBD.out 0 6000 (by decide) (by decide) (by decide) (by decide)) FK.out rfl hP, if_neg (by decide), if_neg (by decide), str_byteL] at VQ
                    have HPP := Lib.hid hP
                    clear hP
                    refine VQ.out.mono ?_
                    clear VQ
                    rintro e Z9 ⟨hbz, A13, c13, rfl, _⟩
                    dsimp only
                    rw [List.length_singleton]
                    replace ST := Lib.hid (ST.out.call hbz)
                    clear hbz
                    go_wp2_with (with_reducible refine wpList_storeN rfl 49 (.tmp 31) (.tmp 238) rfl [.string ⟨#[]⟩, .string ⟨#[]⟩, .int .i64 0, .int .i64 0, .slice none 0 0] [.string rs, .string KEs, .int .i64 5000, .int .i64 1, .slice A13 1 c13] rfl rfl (lenG _ _ _ _ _ _ _ _ _ _) (sizeG _ _ _ _ _) (g_one _ _ _ _ _ _ _) ?_)
                    intro Za _ BZ
                    replace ST := Lib.hid (ST.out.call BZ.out)
                    clear BZ
                    
                    cases g with
                    | false =>
                      go_wp2_with fail
                      refine (awake_any _ (HG.out.below ST.out.bw)).mono ?_
                      rintro e w9 ⟨rfl, hb9⟩
                      replace ST := Lib.hid (ST.out.call hb9)
                      clear hb9
                      go_wp2_with fail
                      go_ret
                      exact ⟨rfl, ST.out.bw⟩
                    | true =>
                      obtain ⟨b6, o6, hA6, hb6, hc6⟩ := (show Rds _ _ A6 (hds (TwoH (XC (byteL us) (byteL rs) (byteL TX) (byteL Cs) (byteL pw) 1 true bs))) from ST.out.fact (i := 9) rfl) (by show 0 < 2 * 2; decide)
                      have m4 := ((show Row _ b 41 [.string INVs, .string BOBs, .int .i64 0, .string ⟨#[]⟩, .slice A6 2 c6, .slice B6 bs.length d6] from ST.out.fact (i := 10) rfl)).cell 4
                      have h61 : Za.cell? ⟨b6, o6 + 1 * 2 + 1, none⟩ = some (.string (strOfNums (valA (XC (byteL us) (byteL rs) (byteL TX) (byteL Cs) (byteL pw) 1 true bs)))) := by
                        have := hc6 3 _ rfl
                        exact this
                      simp only [List.getElem?_cons_succ, List.getElem?_cons_zero, hA6] at m4
                      clear hc6
                      go_wp2_with fail
                      clear m4 h61
                      refine (parsecr_any (strOfNums (valA (XC (byteL us) (byteL rs) (byteL TX) (byteL Cs) (byteL pw) 1 true bs))) _ (by have := (HTW.out pw (by omega)) (AUTHs, (strOfNums (valA (XC (byteL us) (byteL rs) (byteL TX) (byteL Cs) (byteL pw) 1 true bs)))) (by unfold TwoH; simp); exact this.2)).mono ?_
                      rintro e Zb ⟨rfl, hb⟩
                      rw [byteL_str (XO.out.by _ _ _), XO.out.parse, cr_XC]
                      generalize strOfNums (XP (byteL us) (byteL rs) (byteL TX) (byteL Cs) (byteL pw) 1 true bs) = PP
                      replace ST := Lib.hid (ST.out.call hb)
                      clear hb hA6 hb6
                      go_wp2_with (with_reducible refine wpList_storeN rfl 23 (.tmp 34) (.tmp 259) rfl [.string ⟨#[]⟩, .string ⟨#[]⟩, .string ⟨#[]⟩, .string ⟨#[]⟩, .string ⟨#[]⟩, .string ⟨#[]⟩, .string ⟨#[]⟩, .int .i64 0, .bool false] [.string us, .string rs, .string TX, .string BOBs, .string PP, .string Cs, .string ⟨#[]⟩, .int .i64 1, .bool true] rfl rfl (rfl) (sizeL9 _ _ _ _ _ _ _ _ _) (cr9b_one _ _ _ _ _ _ _ _ _) ?_)
                      intro Zc R34 BZ
                      
                      replace ST := Lib.hid ((ST.out.call BZ.out).add (stab_row R34.out (ST.out.fresh (Nat.le_refl _))))
                      clear BZ R34
                      go_wp2_with fail
                      have AW := Lib.hid (fun (x : BW Zc) => awake_any x.w (HG.out.below (bthen ST.out.bw x.h)))
                      have SZ3 := Lib.hid (show SE.size + TX.size + Cs.size ≤ 14000000 by
                        have h1 : SE.size = 64 := by rw [SEQ.out, num_size, hashL_len]
                        have h2 : TX.size = 64 := HTX.out ▸ txt_size _ _ _
                        have h3 : Cs.size = 1 := rfl
                        omega)
                      have RQ1 := Lib.hid (show ∀ x : BW Zc, Calls Tryz.prog 19 #[.string SE, .agg #[.string us, .string rs, .string TX, .string BOBs, .string PP, .string Cs, .string ⟨#[]⟩, .int .i64 1, .bool true], .string INVs, .slice B m d] x.w (fun e w' => e = .returned (.string (strOfNums (XP (byteL us) (byteL rs) (byteL TX) (byteL Cs) (byteL pw) 1 true bs))) ∧ Below x.w.heap.size x.w w') from fun x => by
                        have h := response_any SE INVs us rs TX BOBs PP Cs ⟨#[]⟩ 1 1 true B m d bs x.w HBY.out HM.out ((HB.out.below (bthen ST.out.bw x.h)).up (bthen ST.out.bw x.h).size) rfl SZ3.out (by decide) (by omega) (HK.out.below (bthen ST.out.bw x.h))
                        rw [RSE.out] at h
                        exact h)
                      have RQ2 := Lib.hid (show ∀ x : BW Zc, Calls Tryz.prog 19 #[.string SE, .agg #[.string us, .string rs, .string TX, .string BOBs, .string PP, .string Cs, .string ⟨#[]⟩, .int .i64 1, .bool true], .string INVs, .slice (some ⟨gb, 0, none⟩) (m + 1) gc] x.w (fun e w' => e = .returned (.string (strOfNums (XP (byteL us) (byteL rs) (byteL TX) (byteL Cs) (byteL pw) 1 true bs))) ∧ Below x.w.heap.size x.w w') from fun x => by
                        have h := response_any SE INVs us rs TX BOBs PP Cs ⟨#[]⟩ 1 1 true (some ⟨gb, 0, none⟩) (m + 1) gc (bs ++ [120]) x.w (fun x hx => (List.mem_append.1 hx).elim (HBY.out x) (fun h => by rw [List.mem_singleton] at h; subst h; decide)) (by have := HM.out; rw [List.length_append, List.length_singleton]; omega) (((show Bs _ _ (some ⟨gb, 0, none⟩) (bs ++ [120]) from ST.out.fact (i := 1) rfl).below x.h).up x.h.size) rfl SZ3.out (by decide) (by omega) (HK.out.below (bthen ST.out.bw x.h))
                        rw [HPP.out] at h
                        exact h)
                      generalize strOfNums (XP (byteL us) (byteL rs) (byteL TX) (byteL Cs) (byteL pw) 1 true bs) = PV at RQ1 RQ2
                      have RCR := Lib.hid (show Row _ Zb.heap.size 23 [.string us, .string rs, .string TX, .string BOBs, .string PP, .string Cs, .string ⟨#[]⟩, .int .i64 1, .bool true] from ST.out.fact (i := 0) rfl)
                      have q3 := fun x : BW Zc => (show Row _ Y2.heap.size 54 [.string (us ++ (⟨#[120]⟩ : ByteArray)), .string ⟨#[110, 111, 110, 101]⟩, .string us, .string SE] from ST.out.fact (i := 12) rfl).later x 3
                      have q5 := fun x : BW Zc => (show Row _ Wb.heap.size 41 [.string INVs, .string BOBs, .int .i64 0, .string ⟨#[]⟩, .slice A6 2 c6, .slice (some ⟨gb, 0, none⟩) (m + 1) gc] from ST.out.row (i := 0) rfl).later x 5
                      simp only [List.getElem?_cons_succ, List.getElem?_cons_zero] at q3 q5
                      refine region_bw (by kernel_rfl) (by kernel_rfl) ?_
                      iterate 13 go_big_quiet_step (fail)
                      go_big_quiet_want
                      refine quiet_load 23 (.tmp 34) rfl Zb.heap.size rfl _ 23 _ RCR.out Tryz.underlying23 rfl (sizeL9 _ _ _ _ _ _ _ _ _) ?_
                      simp only [Act.put, List.setIfInBounds_toArray, List.set_cons_zero, List.set_cons_succ]
                      go_big_quiet_on
                      go_big_quiet_step (fail)
                      go_big_quiet_step (exact calls_bw (RQ1.out _))
                      iterate 4 go_big_quiet_step (fail)
                      go_big_quiet_want
                      refine quiet_load 23 (.tmp 34) rfl Zb.heap.size rfl _ 23 _ RCR.out Tryz.underlying23 rfl (sizeL9 _ _ _ _ _ _ _ _ _) ?_
                      simp only [Act.put, List.setIfInBounds_toArray, List.set_cons_zero, List.set_cons_succ]
                      go_big_quiet_on
                      iterate 2 go_big_quiet_step (fail)
                      go_big_quiet_step (exact calls_bw (RQ2.out _))
                      iterate 5 go_big_quiet_step (fail)
                      go_big_quiet_step (exact calls_bw (AW.out _))
                      iterate 2 go_big_quiet_step (fail)
                      clear AW RQ1 RQ2 RCR q3 q5
                      refine wpQuiet_nil ?_
                      rintro _ ⟨x, rfl⟩
                      obtain ⟨Zd, hx⟩ : ∃ Zd, Zd = x.w := ⟨_, rfl⟩
                      replace ST := Lib.hid (show Mine w Zd _ _ by rw [hx]; exact ST.out.call x.h)
                      rw [← hx]
                      clear hx x
                      go_wp2_with fail
                      go_ret
                      exact ⟨rfl, ST.out.bw⟩
                  · rw [verL_wrong (HBD.out 0 6000 (by decide) (by decide) (by decide) (by decide)) (XO.out.pres _ _ _) (by rw [XO.out.wrong _ _ _ _ (s := SE) FK.out rfl, decide_eq_false hP]; rfl)] at VQ
                    refine VQ.out.mono ?_
                    clear VQ
                    rintro e Z9 ⟨hbz, A13, c13, rfl, _⟩
                    dsimp only
                    rw [List.length_singleton]
                    replace ST := Lib.hid (ST.out.call hbz)
                    clear hbz
                    go_wp2_with (with_reducible refine wpList_storeN rfl 49 (.tmp 31) (.tmp 238) rfl [.string ⟨#[]⟩, .string ⟨#[]⟩, .int .i64 0, .int .i64 0, .slice none 0 0] [.string rs, .string KEs, .int .i64 5000, .int .i64 1, .slice A13 1 c13] rfl rfl (lenG _ _ _ _ _ _ _ _ _ _) (sizeG _ _ _ _ _) (g_one _ _ _ _ _ _ _) ?_)
                    intro Za _ BZ
                    replace ST := Lib.hid (ST.out.call BZ.out)
                    clear BZ
                    
                    cases g with
                    | false =>
                      exact absurd ((respL_nobody _ _ _ _ _ _ _ _).trans RSE.out) hP
                    | true =>
                      clear hP
                      obtain ⟨b6, o6, hA6, hb6, hc6⟩ := (show Rds _ _ A6 (hds (TwoH (XC (byteL us) (byteL rs) (byteL TX) (byteL Cs) (byteL pw) 1 true bs))) from ST.out.fact (i := 9) rfl) (by show 0 < 2 * 2; decide)
                      have m4 := ((show Row _ b 41 [.string INVs, .string BOBs, .int .i64 0, .string ⟨#[]⟩, .slice A6 2 c6, .slice B6 bs.length d6] from ST.out.fact (i := 10) rfl)).cell 4
                      have h61 : Za.cell? ⟨b6, o6 + 1 * 2 + 1, none⟩ = some (.string (strOfNums (valA (XC (byteL us) (byteL rs) (byteL TX) (byteL Cs) (byteL pw) 1 true bs)))) := by
                        have := hc6 3 _ rfl
                        exact this
                      simp only [List.getElem?_cons_succ, List.getElem?_cons_zero, hA6] at m4
                      clear hc6
                      go_wp2_with fail
                      clear m4 h61
                      refine (parsecr_any (strOfNums (valA (XC (byteL us) (byteL rs) (byteL TX) (byteL Cs) (byteL pw) 1 true bs))) _ (by have := (HTW.out pw (by omega)) (AUTHs, (strOfNums (valA (XC (byteL us) (byteL rs) (byteL TX) (byteL Cs) (byteL pw) 1 true bs)))) (by unfold TwoH; simp); exact this.2)).mono ?_
                      rintro e Zb ⟨rfl, hb⟩
                      rw [byteL_str (XO.out.by _ _ _), XO.out.parse, cr_XC]
                      generalize strOfNums (XP (byteL us) (byteL rs) (byteL TX) (byteL Cs) (byteL pw) 1 true bs) = PP
                      replace ST := Lib.hid (ST.out.call hb)
                      clear hb hA6 hb6
                      go_wp2_with (with_reducible refine wpList_storeN rfl 23 (.tmp 34) (.tmp 259) rfl [.string ⟨#[]⟩, .string ⟨#[]⟩, .string ⟨#[]⟩, .string ⟨#[]⟩, .string ⟨#[]⟩, .string ⟨#[]⟩, .string ⟨#[]⟩, .int .i64 0, .bool false] [.string us, .string rs, .string TX, .string BOBs, .string PP, .string Cs, .string ⟨#[]⟩, .int .i64 1, .bool true] rfl rfl (rfl) (sizeL9 _ _ _ _ _ _ _ _ _) (cr9b_one _ _ _ _ _ _ _ _ _) ?_)
                      intro Zc R34 BZ
                      
                      replace ST := Lib.hid (ST.out.call BZ.out)
                      clear BZ R34
                      go_wp2_with fail
                      have AW := Lib.hid (fun (x : BW Zc) => awake_any x.w (HG.out.below (bthen ST.out.bw x.h)))
                      refine region_bw (by kernel_rfl) (by kernel_rfl) ?_
                      iterate 29 go_big_quiet_step (fail)
                      go_big_quiet_step (exact calls_bw (AW.out _))
                      iterate 2 go_big_quiet_step (fail)
                      clear AW
                      refine wpQuiet_nil ?_
                      rintro _ ⟨x, rfl⟩
                      obtain ⟨Zd, hx⟩ : ∃ Zd, Zd = x.w := ⟨_, rfl⟩
                      replace ST := Lib.hid (show Mine w Zd _ _ by rw [hx]; exact ST.out.call x.h)
                      rw [← hx]
                      clear hx x
                      go_wp2_with fail
                      go_ret
                      exact ⟨rfl, ST.out.bw⟩
                · rw [verL_wrong (HBD.out 0 6000 (by decide) (by decide) (by decide) (by decide)) (XO.out.pres _ _ _) (by rw [XO.out.wrong _ _ _ _ (s := SE) FK.out rfl, decide_eq_false hT]; rfl)] at VQ
                  clear hT
                  refine VQ.out.mono ?_
                  clear VQ
                  rintro e Z7 ⟨hbz, A12, c12, rfl, _⟩
                  dsimp only
                  rw [List.length_singleton]
                  replace ST := Lib.hid (ST.out.call hbz)
                  clear hbz
                  go_wp2_with (with_reducible refine wpList_storeN rfl 49 (.tmp 27) (.tmp 194) rfl [.string ⟨#[]⟩, .string ⟨#[]⟩, .int .i64 0, .int .i64 0, .slice none 0 0] [.string rs, .string KEs, .int .i64 5000, .int .i64 1, .slice A12 1 c12] rfl rfl (lenG _ _ _ _ _ _ _ _ _ _) (sizeG _ _ _ _ _) (g_one _ _ _ _ _ _ _) ?_)
                  intro Z8 _ BZ
                  replace ST := Lib.hid (ST.out.call BZ.out)
                  clear BZ
                  go_wp2_with fail
                  refine region_bw (by kernel_rfl) (by kernel_rfl) ?_
                  iterate 29 go_big_quiet_step (fail)
                  refine wpQuiet_nil ?_
                  rintro _ ⟨x, rfl⟩
                  obtain ⟨Wb, hx⟩ : ∃ Wb, Wb = x.w := ⟨_, rfl⟩
                  replace ST := Lib.hid (show Mine w Wb _ _ by rw [hx]; exact ST.out.call x.h)
                  rw [← hx]
                  clear hx x
                  go_wp2_with (first | (with_reducible refine wpList_loadR rfl 41 (.tmp 11) rfl (show Row _ b 41 [.string INVs, .string BOBs, .int .i64 0, .string ⟨#[]⟩, .slice A6 2 c6, .slice B6 bs.length d6] from ST.out.fact (i := 9) rfl) rfl Tryz.underlying41 rfl (sizeL6 _ _ _ _ _ _) ?_) | (with_reducible refine wpList_storeN rfl 41 (.tmp 30) (.tmp 226) rfl [.string ⟨#[]⟩, .string ⟨#[]⟩, .int .i64 0, .string ⟨#[]⟩, .slice none 0 0, .slice none 0 0] [.string INVs, .string BOBs, .int .i64 0, .string ⟨#[]⟩, .slice A6 2 c6, .slice B6 bs.length d6] rfl rfl (lenL6 _ _ _ _ _ _ _ _ _ _ _ _) (sizeL6 _ _ _ _ _ _) (p6_one _ _ _ _ _ _ _ _ _ _) ?_))
                  intro Wo RO BO
                  replace ST := Lib.hid (ST.out.join BO.out (Nat.le_refl _) RO.out)
                  clear RO BO
                  have V0 := Lib.hid (VX.new' Wo 5 0 [] rfl (by decide))
                  have OW := Lib.hid (show World.ownsRow (Wo.alloc (.cells #[] 5)) Wo.heap.size 5 1 (.slice (some ⟨Wo.heap.size, 0, none⟩) 0 0) 0 (U8 []) from V0.out.o)
                  have HBo := Lib.hid ((HB.out.below (bthen ST.out.bw V0.out.bw)).up (bthen ST.out.bw V0.out.bw).size)
                  go_wp2_with (with_reducible refine wpList_append_bytes rfl (.tmp 227) (.tmp 228) rfl Wo.heap.size (.slice (some ⟨Wo.heap.size, 0, none⟩) 0 0) 0 [] rfl OW.out B m d bs rfl HBo.out HM.out HNIL.out (by omega) V0.out.bw.size ?_)
                  intro v1 w1 h1 h2
                  have h3 : w1.ownsRow Wo.heap.size 5 1 v1 m (U8 bs) := by simpa using h1
                  have VX1 := Lib.hid (show VX 5 1 Wo v1 m (U8 bs) w1 from ⟨h3, V0.out.bw.grown h2 V0.out.bw.size (fun k hk => by simp [Value.ownBlock] at hk; omega)⟩)
                  clear h1 h2 h3 V0 OW HBo
                  go_wp2_with (with_reducible refine wpList_push120 rfl (.tmp 229) (.tmp 230) rfl v1 m (U8 bs) rfl VX1.out rfl (by omega) ?_)
                  intro v2 w2 VX2
                  clear VX1
                  obtain ⟨_, hn0, _⟩ | ⟨gb, gc, rfl, _, hg1, hg2, hgc⟩ := VX2.out.form
                  · omega
                  replace ST := Lib.hid ((ST.out.call VX2.out.bw).add (stab_bs (A := some ⟨gb, 0, none⟩) (xs := (bs ++ [120])) (fun _ => ⟨⟨gb, 0, none⟩, rfl, hg2, fun j x hx => by
                    rw [Addr.add_mid, Nat.zero_add]
                    refine hgc j _ ?_
                    rw [show U8 bs ++ [Value.int .u8 120] = U8 (bs ++ [120]) by simp [U8]]
                    exact U8_get hx⟩) (fun ad e => by
                    injection e with e
                    subst e
                    have hl := (ST.out.row (i := 0) rfl).lt
                    simp
                    omega)))
                  clear hg1 hg2 hgc VX2
                  have f5 := (ST.out.row (i := 0) rfl).frozen 5
                  have e5 := (ST.out.row (i := 0) rfl).cell 5
                  simp only [List.getElem?_cons_succ, List.getElem?_cons_zero] at e5
                  have STq := Lib.hid (Mine.setCell (off := 5) (.slice (some ⟨gb, 0, none⟩) (m + 1) gc) ST.out (i := 0) rfl rfl)
                  simp only [List.set_cons_zero, List.set_cons_succ] at STq
                  clear ST
                  have ST := STq
                  clear STq
                  have o0 := (ST.out.row (i := 0) rfl).cell 0
                  clear o0
                  go_wp2_with (first | (with_reducible refine wpList_loadR rfl 49 (.tmp 7) rfl (show Row _ X.heap.size 49 [.string rs, .string KEs, .int .i64 5000, .int .i64 1, .slice A1 1 c1] from ST.out.fact (i := 12) rfl) rfl Tryz.underlying49 rfl (sizeG _ _ _ _ _) ?_) | (with_reducible refine wpList_loadR rfl 41 (.tmp 30) rfl (show Row _ Wb.heap.size 41 [.string INVs, .string BOBs, .int .i64 0, .string ⟨#[]⟩, .slice A6 2 c6, .slice (some ⟨gb, 0, none⟩) (m + 1) gc] from ST.out.row (i := 0) rfl) rfl Tryz.underlying41 rfl (sizeL6 _ _ _ _ _ _) ?_))
                  clear f5 e5
                  have VQ := Lib.hid (verify_any rs KEs INVs BOBs ⟨#[]⟩ 5000 1 0 6000 A1 (some ⟨Y2.heap.size, 0, none⟩) A6 (some ⟨gb, 0, none⟩) 1 c1 2 2 2 c6 (m + 1) gc [⟨TX, 1000, 0⟩] [((us ++ (⟨#[120]⟩ : ByteArray)), ⟨#[110, 111, 110, 101]⟩), (us, SE)] (TwoH (XC (byteL us) (byteL rs) (byteL TX) (byteL Cs) (byteL pw) 1 g bs)) (bs ++ [120]) _ (show Rds _ _ A1 (ncs [⟨TX, 1000, 0⟩]) from ST.out.fact (i := 14) rfl) rfl (by decide)
                    (fun _ => ⟨Y2.heap.size, 0, rfl, (show Row _ Y2.heap.size 54 [.string (us ++ (⟨#[120]⟩ : ByteArray)), .string ⟨#[110, 111, 110, 101]⟩, .string us, .string SE] from ST.out.fact (i := 11) rfl).lt, fun j u hu => by rw [Nat.zero_add, (show Row _ Y2.heap.size 54 [.string (us ++ (⟨#[120]⟩ : ByteArray)), .string ⟨#[110, 111, 110, 101]⟩, .string us, .string SE] from ST.out.fact (i := 11) rfl).cell]; exact hu⟩) rfl (by decide) HUS.out (show Rds _ _ A6 (hds (TwoH (XC (byteL us) (byteL rs) (byteL TX) (byteL Cs) (byteL pw) 1 g bs))) from ST.out.fact (i := 9) rfl) rfl (by decide) (HTW.out pw (by omega)) (fun x hx => (List.mem_append.1 hx).elim (HBY.out x) (fun h => by rw [List.mem_singleton] at h; subst h; decide)) (by have := HM.out; rw [List.length_append, List.length_singleton]; omega) (by have := HM.out; omega) (show Bs _ _ (some ⟨gb, 0, none⟩) (bs ++ [120]) from ST.out.fact (i := 0) rfl) (by omega) (by decide) (by decide) (by decide) HN1.out (HK.out.below ST.out.bw) (HS.out.below ST.out.bw))
                  by_cases hP : respL (byteL SE) (byteL TX) 1 (byteL Cs) g (byteL BOBs) (byteL INVs) (bs ++ [120]) = XP (byteL us) (byteL rs) (byteL TX) (byteL Cs) (byteL pw) 1 g bs
                  · rw [ver_one (j := 1) (s := SE) XO.out (HBD.out 0 6000 (by decide) (by decide) (by decide) (by decide)) FK.out rfl hP, if_neg (by decide), if_neg (by decide), str_byteL] at VQ
                    have HPP := Lib.hid hP
                    clear hP
                    refine VQ.out.mono ?_
                    clear VQ
                    rintro e Z9 ⟨hbz, A13, c13, rfl, _⟩
                    dsimp only
                    rw [List.length_singleton]
                    replace ST := Lib.hid (ST.out.call hbz)
                    clear hbz
                    go_wp2_with (with_reducible refine wpList_storeN rfl 49 (.tmp 31) (.tmp 238) rfl [.string ⟨#[]⟩, .string ⟨#[]⟩, .int .i64 0, .int .i64 0, .slice none 0 0] [.string rs, .string KEs, .int .i64 5000, .int .i64 1, .slice A13 1 c13] rfl rfl (lenG _ _ _ _ _ _ _ _ _ _) (sizeG _ _ _ _ _) (g_one _ _ _ _ _ _ _) ?_)
                    intro Za _ BZ
                    replace ST := Lib.hid (ST.out.call BZ.out)
                    clear BZ
                    
                    cases g with
                    | false =>
                      go_wp2_with fail
                      refine (awake_any _ (HG.out.below ST.out.bw)).mono ?_
                      rintro e w9 ⟨rfl, hb9⟩
                      replace ST := Lib.hid (ST.out.call hb9)
                      clear hb9
                      go_wp2_with fail
                      go_ret
                      exact ⟨rfl, ST.out.bw⟩
                    | true =>
                      obtain ⟨b6, o6, hA6, hb6, hc6⟩ := (show Rds _ _ A6 (hds (TwoH (XC (byteL us) (byteL rs) (byteL TX) (byteL Cs) (byteL pw) 1 true bs))) from ST.out.fact (i := 9) rfl) (by show 0 < 2 * 2; decide)
                      have m4 := ((show Row _ b 41 [.string INVs, .string BOBs, .int .i64 0, .string ⟨#[]⟩, .slice A6 2 c6, .slice B6 bs.length d6] from ST.out.fact (i := 10) rfl)).cell 4
                      have h61 : Za.cell? ⟨b6, o6 + 1 * 2 + 1, none⟩ = some (.string (strOfNums (valA (XC (byteL us) (byteL rs) (byteL TX) (byteL Cs) (byteL pw) 1 true bs)))) := by
                        have := hc6 3 _ rfl
                        exact this
                      simp only [List.getElem?_cons_succ, List.getElem?_cons_zero, hA6] at m4
                      clear hc6
                      go_wp2_with fail
                      clear m4 h61
                      refine (parsecr_any (strOfNums (valA (XC (byteL us) (byteL rs) (byteL TX) (byteL Cs) (byteL pw) 1 true bs))) _ (by have := (HTW.out pw (by omega)) (AUTHs, (strOfNums (valA (XC (byteL us) (byteL rs) (byteL TX) (byteL Cs) (byteL pw) 1 true bs)))) (by unfold TwoH; simp); exact this.2)).mono ?_
                      rintro e Zb ⟨rfl, hb⟩
                      rw [byteL_str (XO.out.by _ _ _), XO.out.parse, cr_XC]
                      generalize strOfNums (XP (byteL us) (byteL rs) (byteL TX) (byteL Cs) (byteL pw) 1 true bs) = PP
                      replace ST := Lib.hid (ST.out.call hb)
                      clear hb hA6 hb6
                      go_wp2_with (with_reducible refine wpList_storeN rfl 23 (.tmp 34) (.tmp 259) rfl [.string ⟨#[]⟩, .string ⟨#[]⟩, .string ⟨#[]⟩, .string ⟨#[]⟩, .string ⟨#[]⟩, .string ⟨#[]⟩, .string ⟨#[]⟩, .int .i64 0, .bool false] [.string us, .string rs, .string TX, .string BOBs, .string PP, .string Cs, .string ⟨#[]⟩, .int .i64 1, .bool true] rfl rfl (rfl) (sizeL9 _ _ _ _ _ _ _ _ _) (cr9b_one _ _ _ _ _ _ _ _ _) ?_)
                      intro Zc R34 BZ
                      
                      replace ST := Lib.hid ((ST.out.call BZ.out).add (stab_row R34.out (ST.out.fresh (Nat.le_refl _))))
                      clear BZ R34
                      go_wp2_with fail
                      have AW := Lib.hid (fun (x : BW Zc) => awake_any x.w (HG.out.below (bthen ST.out.bw x.h)))
                      have SZ3 := Lib.hid (show SE.size + TX.size + Cs.size ≤ 14000000 by
                        have h1 : SE.size = 64 := by rw [SEQ.out, num_size, hashL_len]
                        have h2 : TX.size = 64 := HTX.out ▸ txt_size _ _ _
                        have h3 : Cs.size = 1 := rfl
                        omega)
                      have RQ1 := Lib.hid (show ∀ x : BW Zc, Calls Tryz.prog 19 #[.string SE, .agg #[.string us, .string rs, .string TX, .string BOBs, .string PP, .string Cs, .string ⟨#[]⟩, .int .i64 1, .bool true], .string INVs, .slice B m d] x.w (fun e w' => e = .returned (.string (strOfNums (XP (byteL us) (byteL rs) (byteL TX) (byteL Cs) (byteL pw) 1 true bs))) ∧ Below x.w.heap.size x.w w') from fun x => by
                        have h := response_any SE INVs us rs TX BOBs PP Cs ⟨#[]⟩ 1 1 true B m d bs x.w HBY.out HM.out ((HB.out.below (bthen ST.out.bw x.h)).up (bthen ST.out.bw x.h).size) rfl SZ3.out (by decide) (by omega) (HK.out.below (bthen ST.out.bw x.h))
                        rw [RSE.out] at h
                        exact h)
                      have RQ2 := Lib.hid (show ∀ x : BW Zc, Calls Tryz.prog 19 #[.string SE, .agg #[.string us, .string rs, .string TX, .string BOBs, .string PP, .string Cs, .string ⟨#[]⟩, .int .i64 1, .bool true], .string INVs, .slice (some ⟨gb, 0, none⟩) (m + 1) gc] x.w (fun e w' => e = .returned (.string (strOfNums (XP (byteL us) (byteL rs) (byteL TX) (byteL Cs) (byteL pw) 1 true bs))) ∧ Below x.w.heap.size x.w w') from fun x => by
                        have h := response_any SE INVs us rs TX BOBs PP Cs ⟨#[]⟩ 1 1 true (some ⟨gb, 0, none⟩) (m + 1) gc (bs ++ [120]) x.w (fun x hx => (List.mem_append.1 hx).elim (HBY.out x) (fun h => by rw [List.mem_singleton] at h; subst h; decide)) (by have := HM.out; rw [List.length_append, List.length_singleton]; omega) (((show Bs _ _ (some ⟨gb, 0, none⟩) (bs ++ [120]) from ST.out.fact (i := 1) rfl).below x.h).up x.h.size) rfl SZ3.out (by decide) (by omega) (HK.out.below (bthen ST.out.bw x.h))
                        rw [HPP.out] at h
                        exact h)
                      generalize strOfNums (XP (byteL us) (byteL rs) (byteL TX) (byteL Cs) (byteL pw) 1 true bs) = PV at RQ1 RQ2
                      have RCR := Lib.hid (show Row _ Zb.heap.size 23 [.string us, .string rs, .string TX, .string BOBs, .string PP, .string Cs, .string ⟨#[]⟩, .int .i64 1, .bool true] from ST.out.fact (i := 0) rfl)
                      have q3 := fun x : BW Zc => (show Row _ Y2.heap.size 54 [.string (us ++ (⟨#[120]⟩ : ByteArray)), .string ⟨#[110, 111, 110, 101]⟩, .string us, .string SE] from ST.out.fact (i := 12) rfl).later x 3
                      have q5 := fun x : BW Zc => (show Row _ Wb.heap.size 41 [.string INVs, .string BOBs, .int .i64 0, .string ⟨#[]⟩, .slice A6 2 c6, .slice (some ⟨gb, 0, none⟩) (m + 1) gc] from ST.out.row (i := 0) rfl).later x 5
                      simp only [List.getElem?_cons_succ, List.getElem?_cons_zero] at q3 q5
                      refine region_bw (by kernel_rfl) (by kernel_rfl) ?_
                      iterate 13 go_big_quiet_step (fail)
                      go_big_quiet_want
                      refine quiet_load 23 (.tmp 34) rfl Zb.heap.size rfl _ 23 _ RCR.out Tryz.underlying23 rfl (sizeL9 _ _ _ _ _ _ _ _ _) ?_
                      simp only [Act.put, List.setIfInBounds_toArray, List.set_cons_zero, List.set_cons_succ]
                      go_big_quiet_on
                      go_big_quiet_step (fail)
                      go_big_quiet_step (exact calls_bw (RQ1.out _))
                      iterate 4 go_big_quiet_step (fail)
                      go_big_quiet_want
                      refine quiet_load 23 (.tmp 34) rfl Zb.heap.size rfl _ 23 _ RCR.out Tryz.underlying23 rfl (sizeL9 _ _ _ _ _ _ _ _ _) ?_
                      simp only [Act.put, List.setIfInBounds_toArray, List.set_cons_zero, List.set_cons_succ]
                      go_big_quiet_on
                      iterate 2 go_big_quiet_step (fail)
                      go_big_quiet_step (exact calls_bw (RQ2.out _))
                      iterate 5 go_big_quiet_step (fail)
                      go_big_quiet_step (exact calls_bw (AW.out _))
                      iterate 2 go_big_quiet_step (fail)
                      clear AW RQ1 RQ2 RCR q3 q5
                      refine wpQuiet_nil ?_
                      rintro _ ⟨x, rfl⟩
                      obtain ⟨Zd, hx⟩ : ∃ Zd, Zd = x.w := ⟨_, rfl⟩
                      replace ST := Lib.hid (show Mine w Zd _ _ by rw [hx]; exact ST.out.call x.h)
                      rw [← hx]
                      clear hx x
                      go_wp2_with fail
                      go_ret
                      exact ⟨rfl, ST.out.bw⟩
                  · rw [verL_wrong (HBD.out 0 6000 (by decide) (by decide) (by decide) (by decide)) (XO.out.pres _ _ _) (by rw [XO.out.wrong _ _ _ _ (s := SE) FK.out rfl, decide_eq_false hP]; rfl)] at VQ
                    refine VQ.out.mono ?_
                    clear VQ
                    rintro e Z9 ⟨hbz, A13, c13, rfl, _⟩
                    dsimp only
                    rw [List.length_singleton]
                    replace ST := Lib.hid (ST.out.call hbz)
                    clear hbz
                    go_wp2_with (with_reducible refine wpList_storeN rfl 49 (.tmp 31) (.tmp 238) rfl [.string ⟨#[]⟩, .string ⟨#[]⟩, .int .i64 0, .int .i64 0, .slice none 0 0] [.string rs, .string KEs, .int .i64 5000, .int .i64 1, .slice A13 1 c13] rfl rfl (lenG _ _ _ _ _ _ _ _ _ _) (sizeG _ _ _ _ _) (g_one _ _ _ _ _ _ _) ?_)
                    intro Za _ BZ
                    replace ST := Lib.hid (ST.out.call BZ.out)
                    clear BZ
                    
                    cases g with
                    | false =>
                      exact absurd ((respL_nobody _ _ _ _ _ _ _ _).trans RSE.out) hP
                    | true =>
                      clear hP
                      obtain ⟨b6, o6, hA6, hb6, hc6⟩ := (show Rds _ _ A6 (hds (TwoH (XC (byteL us) (byteL rs) (byteL TX) (byteL Cs) (byteL pw) 1 true bs))) from ST.out.fact (i := 9) rfl) (by show 0 < 2 * 2; decide)
                      have m4 := ((show Row _ b 41 [.string INVs, .string BOBs, .int .i64 0, .string ⟨#[]⟩, .slice A6 2 c6, .slice B6 bs.length d6] from ST.out.fact (i := 10) rfl)).cell 4
                      have h61 : Za.cell? ⟨b6, o6 + 1 * 2 + 1, none⟩ = some (.string (strOfNums (valA (XC (byteL us) (byteL rs) (byteL TX) (byteL Cs) (byteL pw) 1 true bs)))) := by
                        have := hc6 3 _ rfl
                        exact this
                      simp only [List.getElem?_cons_succ, List.getElem?_cons_zero, hA6] at m4
                      clear hc6
                      go_wp2_with fail
                      clear m4 h61
                      refine (parsecr_any (strOfNums (valA (XC (byteL us) (byteL rs) (byteL TX) (byteL Cs) (byteL pw) 1 true bs))) _ (by have := (HTW.out pw (by omega)) (AUTHs, (strOfNums (valA (XC (byteL us) (byteL rs) (byteL TX) (byteL Cs) (byteL pw) 1 true bs)))) (by unfold TwoH; simp); exact this.2)).mono ?_
                      rintro e Zb ⟨rfl, hb⟩
                      rw [byteL_str (XO.out.by _ _ _), XO.out.parse, cr_XC]
                      generalize strOfNums (XP (byteL us) (byteL rs) (byteL TX) (byteL Cs) (byteL pw) 1 true bs) = PP
                      replace ST := Lib.hid (ST.out.call hb)
                      clear hb hA6 hb6
                      go_wp2_with (with_reducible refine wpList_storeN rfl 23 (.tmp 34) (.tmp 259) rfl [.string ⟨#[]⟩, .string ⟨#[]⟩, .string ⟨#[]⟩, .string ⟨#[]⟩, .string ⟨#[]⟩, .string ⟨#[]⟩, .string ⟨#[]⟩, .int .i64 0, .bool false] [.string us, .string rs, .string TX, .string BOBs, .string PP, .string Cs, .string ⟨#[]⟩, .int .i64 1, .bool true] rfl rfl (rfl) (sizeL9 _ _ _ _ _ _ _ _ _) (cr9b_one _ _ _ _ _ _ _ _ _) ?_)
                      intro Zc R34 BZ
                      
                      replace ST := Lib.hid (ST.out.call BZ.out)
                      clear BZ R34
                      go_wp2_with fail
                      have AW := Lib.hid (fun (x : BW Zc) => awake_any x.w (HG.out.below (bthen ST.out.bw x.h)))
                      refine region_bw (by kernel_rfl) (by kernel_rfl) ?_
                      iterate 29 go_big_quiet_step (fail)
                      go_big_quiet_step (exact calls_bw (AW.out _))
                      iterate 2 go_big_quiet_step (fail)
                      clear AW
                      refine wpQuiet_nil ?_
                      rintro _ ⟨x, rfl⟩
                      obtain ⟨Zd, hx⟩ : ∃ Zd, Zd = x.w := ⟨_, rfl⟩
                      replace ST := Lib.hid (show Mine w Zd _ _ by rw [hx]; exact ST.out.call x.h)
                      rw [← hx]
                      clear hx x
                      go_wp2_with fail
                      go_ret
                      exact ⟨rfl, ST.out.bw⟩
      · have d2 : decide ((1000 : Int) < (m : Int)) = true := by simp; omega
        have d3 : decide (1000 < m) = true := by simp; omega
        go_wp2_with fail
        refine (awake_any _ (HG.out.below ST.out.bw)).mono ?_
        rintro e w9 ⟨rfl, hb9⟩
        replace ST := Lib.hid (ST.out.call hb9)
        clear hb9
        go_wp2_with fail
        go_ret
        exact ⟨rfl, ST.out.bw⟩
    · have d1 : decide ((400 : Int) < (us.size : Int) + (pw.size : Int) + (ty.size : Int)) = true := by simp; omega
      have w1 : wrap64 ((us.size : Int) + (pw.size : Int)) = (us.size : Int) + (pw.size : Int) := by unfold wrap64; omega
      have w2 : wrap64 ((us.size : Int) + (pw.size : Int) + (ty.size : Int)) = (us.size : Int) + (pw.size : Int) + (ty.size : Int) := by unfold wrap64; omega
      go_wp2_with fail
      refine (awake_any _ (HG.out.below ST.out.bw)).mono ?_
      rintro e w9 ⟨rfl, hb9⟩
      replace ST := Lib.hid (ST.out.call hb9)
      clear hb9
      go_wp2_with fail
      go_ret
      exact ⟨rfl, ST.out.bw⟩
  · have VQ := Lib.hid (firL_worse (ke := KEs) (life := 5000) hok)
    generalize firL rs KEs 5000 = V at *
    clear hok
    go_enter Tryz.func8, Tryz.ntmps8
    go_wp2_with fail
    refine FI.out.mono ?_
    clear FI l0 l1 l2 l3
    rintro e X ⟨hbx, A1, c1, rfl, hn1, hA1⟩
    rw [VQ.out, show ((2 : Int) == 0) = false from rfl]
    replace ST := Lib.hid (ST.out.call hbx)
    clear hbx hA1 hn1 VQ
    replace ST := Lib.hid (show Mine w ((X.alloc (.cells #[.string ⟨#[]⟩, .string ⟨#[]⟩, .int .i64 0, .int .i64 0, .slice none 0 0] 49)).alloc (.cells #[.string ⟨#[]⟩, .string ⟨#[]⟩, .string ⟨#[]⟩, .bool false, .bool false] 36)) _ _ by
      have h := (ST.out.alloc 49 [.string ⟨#[]⟩, .string ⟨#[]⟩, .int .i64 0, .int .i64 0, .slice none 0 0]).alloc 36 [.string ⟨#[]⟩, .string ⟨#[]⟩, .string ⟨#[]⟩, .bool false, .bool false]
      rw [World.size_alloc] at h
      exact h)
    go_wp2_with (with_reducible refine wpList_storeS ST.out 1 rfl 49 (.tmp 7) (.tmp 40) rfl [.string V.re, .string V.ke, .int .i64 V.life, .int .i64 V.iss, .slice A1 V.l.length c1] _ rfl rfl rfl rfl (lenG _ _ _ _ _ _ _ _ _ _) (sizeG _ _ _ _ _) (g_one _ _ _ _ _ _ _) ?_)
    intro X2 ST'
    clear ST
    go_wp2_with (with_reducible refine wpList_storeS ST'.out 0 rfl 36 (.tmp 8) (.tmp 41) rfl [.string V.cr, .string V.cn, .string ⟨#[]⟩, .bool V.ci, .bool false] _ rfl rfl rfl rfl (lenG _ _ _ _ _ _ _ _ _ _) (sizeCh _ _ _ _ _) (ch_one _ _ _ _ _) ?_)
    intro Y ST
    clear ST'
    go_wp2_with fail
    refine (awake_any _ (HG.out.below ST.out.bw)).mono ?_
    rintro e w9 ⟨rfl, hb9⟩
    replace ST := Lib.hid (ST.out.call hb9)
    clear hb9
    go_wp2_with fail
    go_ret
    exact ⟨rfl, ST.out.bw⟩
end Go.Proofs.YtfhbpgickkibmaaGreatDoor
