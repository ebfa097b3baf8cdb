/- The law AuthNonces. -/
import Derived.Test.YtfhbpgickkibmaaGreatDoorTf
import Derived.Lib.MinMax
namespace Go.Proofs.YtfhbpgickkibmaaGreatDoor
open Go.RowKit

theorem zeroM6 : (Tryz.prog.info? 41).bind (·.zero) = some (.agg Z6.toArray) := by kernel_rfl
/-- What the loop has laid in a challenge's variable. -/
def chW (s : Int) : Nat → List Value
  | 0 => [.string ⟨#[]⟩, .string ⟨#[]⟩, .string ⟨#[]⟩, .bool false, .bool false]
  | i + 1 => [.string Rr, .string (NNk s i).v, .string ⟨#[]⟩, .bool true, .bool false]
theorem lenW (s : Int) (i : Nat) (a b c d e : Value) : (chW s i).length = [a, b, c, d, e].length := by cases i <;> rfl
def NonI (w : World) (b5 b6 b7 b8 : Nat) (SE : ByteArray) (s : Int) (i : Nat) (wr : World) : Prop := ∃ A c n, (NNs s i).length = n ∧ (A = none → n = 0 ∧ c = 0) ∧
  Mine w wr [(b8, 36, chW s i), (b7, 36, chW s (min i 1)), (b5, 49, [.string Rr, .string Kk, .int .i64 1099511627776, .int .i64 i, .slice A n c])] [fun W => Rds W W.heap.size A (ncs (NNs s i)), fun W => Row W b6 54 [.string Us, .string SE]]
set_option maxRecDepth 100000 in
set_option maxHeartbeats 4000000 in
theorem nonces_any (m s : Int) (w : World) (m0 : 0 ≤ m) (m1 : m ≤ 255) (s0 : 0 ≤ s) (s1 : s ≤ 65535) (hG : GM w) (hK : KC w) (hP : PT w) (hS : SC w) :
    Calls Tryz.prog 10 #[.int .u8 m, .int .u16 s] w fun e w' => e = .returned (.bool true) ∧ Below w.heap.size w w' := by
  have HG := Lib.hid hG; have HK := Lib.hid hK; have HP := Lib.hid hP; have HS := Lib.hid hS
  clear hG hK hP hS
  obtain ⟨r, hr⟩ : ∃ r : Nat, m % 150 = (r : Int) := ⟨(m % 150).toNat, by omega⟩
  have hr1 : r < 150 := by omega
  have HR := Lib.hid hr1
  go_enter Tryz.func10, Tryz.ntmps10
  go_wp2_with (with_reducible refine wpList_storeN rfl 49 (.tmp 5) (.tmp 26) rfl [.string ⟨#[]⟩, .string ⟨#[]⟩, .int .i64 0, .int .i64 0, .slice none 0 0] [.string Rr, .string Kk, .int .i64 1099511627776, .int .i64 0, .slice none 0 0] rfl rfl (lenG _ _ _ _ _ _ _ _ _ _) (sizeG _ _ _ _ _) (g_one _ _ _ _ _ _ _) ?_)
  intro X R5 BX
  go_wp2_with fail
  refine (secret_any Us Rr Ps _ (by decide) (HK.out.below BX.out)).mono ?_
  rintro e X2 ⟨rfl, hb2⟩
  obtain ⟨SE, hSE⟩ : ∃ SE, SE = strOfNums (hashL [byteL Us, byteL Rr, byteL Ps]) := ⟨_, rfl⟩
  rw [← hSE]
  have SEQ := Lib.hid hSE
  clear hSE
  have ST0 := Lib.hid (show Mine w X2 [(w.heap.size, 49, [.string Rr, .string Kk, .int .i64 1099511627776, .int .i64 0, .slice none 0 0])] [] from ((Mine.refl w).join BX.out (Nat.le_refl _) R5.out).call hb2)
  clear hb2 R5 BX
  have INI := Lib.hid (show NonI w w.heap.size X2.heap.size (X2.heap.size + 1) (X2.heap.size + 1 + 1) SE s 0 (((X2.alloc (.cells #[.string ⟨#[117]⟩, .string SE] 54)).alloc (.cells #[.string ⟨#[]⟩, .string ⟨#[]⟩, .string ⟨#[]⟩, .bool false, .bool false] 36)).alloc (.cells #[.string ⟨#[]⟩, .string ⟨#[]⟩, .string ⟨#[]⟩, .bool false, .bool false] 36)) by
    have h3 := (((ST0.out.alloc 54 [.string Us, .string SE]).rest).alloc 36 [.string ⟨#[]⟩, .string ⟨#[]⟩, .string ⟨#[]⟩, .bool false, .bool false]).alloc 36 [.string ⟨#[]⟩, .string ⟨#[]⟩, .string ⟨#[]⟩, .bool false, .bool false]
    rw [World.size_alloc, World.size_alloc] at h3
    exact ⟨none, 0, 0, rfl, fun _ => ⟨rfl, rfl⟩, h3.add (stab_rds (A := none) (cs := ncs (NNs s 0)) (fun h => absurd h (by simp [ncs, NNs])) (fun b o s e => by cases e))⟩)
  clear ST0
  go_wp2_with fail
  generalize (((X2.alloc (.cells #[.string ⟨#[117]⟩, .string SE] 54)).alloc (.cells #[.string ⟨#[]⟩, .string ⟨#[]⟩, .string ⟨#[]⟩, .bool false, .bool false] 36)).alloc (.cells #[.string ⟨#[]⟩, .string ⟨#[]⟩, .string ⟨#[]⟩, .bool false, .bool false] 36)) = W0 at *
  clear hr
  go_loopw [10] (fun v10 wr => ∃ i : Nat, v10 = .int .i64 i ∧ i ≤ r + 1 ∧ Hid (NonI w w.heap.size X2.heap.size (X2.heap.size + 1) (X2.heap.size + 1 + 1) SE s i wr)) (fun v10 _ => r + 1 - (intOf v10).toNat)
  case atStart => exact ⟨0, rfl, by omega, INI⟩
  case round =>
    obtain ⟨i, rfl, hi, HI⟩ := hrel
    clear INI
    by_cases hlt : i < r + 1
    · as_aux_lemma =>
        have hd : decide (i < 1 + r) = true := by simp; omega
        have hd2 : decide ((i : Int) < 1 + (r : Int)) = true := by simp; omega
        obtain ⟨A, c, n, hn, hnil, ST⟩ := HI.out
        have ST := Lib.hid ST
        have HN := Lib.hid hn
        have HNL := Lib.hid hnil
        have ML := Lib.hid (mul_le s0 s1 (Nat.le_refl i) (show i ≤ 150 by omega))
        have NL := Lib.hid (NNs_len s i)
        obtain ⟨p, hp⟩ : ∃ p : Int, (i : Int) * s = p := ⟨_, rfl⟩
        have IS := Lib.hid (fun (X : World) (b : Below w.heap.size w X) (hA : Rds X X.heap.size A (ncs (NNs s i))) => issue_any Rr Kk 1099511627776 i (i * s) A n c (NNs s i) X hA HN.out (by have := NL.out; have := HN.out; omega) (by decide) (by decide) HNL.out (HK.out.below b) (HP.out.below b))
        rw [NNs_issue s0 s1 (by omega)] at IS
        clear HI hn hnil
        rw [hp] at IS ML
        have hw : wrap64 p = p := by have := ML.out; unfold wrap64; omega
        go_wp2_with (with_reducible refine wpList_loadR rfl 49 (.tmp 5) rfl (ST.out.row (i := 2) rfl) rfl Tryz.underlying49 rfl (sizeG _ _ _ _ _) ?_)
        clear hd hd2
        refine (IS.out wr ST.out.bw (ST.out.fact (i := 0) rfl)).mono ?_
        clear IS
        rintro e Y ⟨hby, A1, c1, rfl, hnil1, hfr1, hA1⟩
        obtain ⟨n1, hn1⟩ : ∃ n1, (NNs s (i + 1)).length = n1 := ⟨_, rfl⟩
        obtain ⟨TX, hTX⟩ : ∃ TX, txtI Kk i p = TX := ⟨_, rfl⟩
        dsimp only at hnil1 hA1 ⊢
        rw [hn1] at hnil1
        rw [hn1, hTX]
        have HN1 := Lib.hid hn1; have HTX := Lib.hid hTX; have HNL1 := Lib.hid hnil1
        have STa := Lib.hid ((ST.out.call hby).add (stab_rds hA1 (fun b o s e => ST.out.fresh (hfr1 b o s e))))
        have STb := Lib.hid (show Mine w ((Y.alloc (.cells #[.string ⟨#[]⟩, .string ⟨#[]⟩, .int .i64 0, .int .i64 0, .slice none 0 0] 49)).alloc (.cells #[.string ⟨#[]⟩, .string ⟨#[]⟩, .string ⟨#[]⟩, .bool false, .bool false] 36)) _ _ by
          have h := (STa.out.alloc 49 [.string ⟨#[]⟩, .string ⟨#[]⟩, .int .i64 0, .int .i64 0, .slice none 0 0]).alloc 36 [.string ⟨#[]⟩, .string ⟨#[]⟩, .string ⟨#[]⟩, .bool false, .bool false]
          rw [World.size_alloc] at h
          exact h)
        clear hby hfr1 hA1 hn1 hTX hnil1 ST STa
        go_wp2_with (with_reducible refine wpList_storeS STb.out 1 rfl 49 (.tmp 11) (.tmp 46) rfl [.string Rr, .string Kk, .int .i64 1099511627776, .int .i64 (i + 1), .slice A1 n1 c1] _ rfl rfl rfl rfl (lenG _ _ _ _ _ _ _ _ _ _) (sizeG _ _ _ _ _) (g_one _ _ _ _ _ _ _) ?_)
        intro Z1 STc
        go_wp2_with (with_reducible refine wpList_storeS STc.out 0 rfl 36 (.tmp 12) (.tmp 47) rfl [.string Rr, .string TX, .string ⟨#[]⟩, .bool true, .bool false] _ rfl rfl rfl rfl (lenG _ _ _ _ _ _ _ _ _ _) (sizeCh _ _ _ _ _) (ch_one _ _ _ _ _) ?_)
        intro Z2 STd
        clear STb STc
        have e4 : Z2.cell? ⟨Y.heap.size, 4, none⟩ = some (.slice A1 n1 c1) := (STd.out.row (i := 1) rfl).cell 4
        go_wp2_with fail
        clear e4
        have LN1 := Lib.hid (show n1 = min (i + 1) 64 by rw [← HN1.out]; exact NNs_len s (i + 1))
        have q4 := fun x : BW Z2 => (STd.out.row (i := 1) rfl).later x 4
        have q3 := fun x : BW Z2 => (STd.out.row (i := 1) rfl).later x 3
        have c0 : ∀ x : BW Z2, x.w.cell? ⟨Y.heap.size + 1, 0, none⟩ = some (.string ⟨#[114]⟩) := fun x => (STd.out.row (i := 0) rfl).later x 0
        have c1' := fun x : BW Z2 => (STd.out.row (i := 0) rfl).later x 1
        have c3 := fun x : BW Z2 => (STd.out.row (i := 0) rfl).later x 3
        simp only [List.getElem?_cons_succ, List.getElem?_cons_zero] at q4 q3 c1' c3
        obtain ⟨b9, o9, hA9, hb9, hc9⟩ := (show Rds Z2 Z2.heap.size A1 (ncs (NNs s (i + 1))) from STd.out.fact (i := 0) rfl) (by rw [ncs_len, HN1.out]; have := LN1.out; omega)
        subst hA9
        have HR9 := Lib.hid (show Z2.rangeAt b9 (o9 + (n1 - 1) * 3) [.string TX, .int .i64 p, .int .i64 0] from Rds.range (B := 0) hc9 _ _ (fun j u hu => ncs_at (l := NNs s (i + 1)) (p := ⟨TX, p, 0⟩) (by rw [← HN1.out, NNs_last (by omega), Nat.add_sub_cancel]; unfold NNk; rw [hp, HTX.out]) j u hu))
        have HB9 := Lib.hid hb9
        have hn9 : (n1 : Int) - 1 = ((n1 - 1 : Nat) : Int) := by have := LN1.out; omega
        have hn8 : decide ((n1 : Int) < 1) = false := by have := LN1.out; simp; omega
        have hn7 : ((n1 - 1 : Nat) : Int) < (n1 : Int) := by have := LN1.out; omega
        have hn6 : (0 : Int) ≤ ((n1 - 1 : Nat) : Int) := by omega
        clear hc9 hb9
        have hmin : min ((i : Int) + 1) 64 = (n1 : Int) := by have := LN1.out; omega
        have gN := guardN
        have sN := sameN TX p 0
        refine region_bw (by kernel_rfl) (by kernel_rfl) ?_
        iterate 26 go_big_quiet_step (fail)
        go_big_quiet_want
        refine quiet_range 76 (.tmp 77) rfl b9 (o9 + (n1 - 1) * 3) rfl _ _ HR9.out HB9.out Tryz.underlying76 rfl (sizeNc _ _ _) ?_
        simp only [Act.put, List.setIfInBounds_toArray, List.set_cons_zero, List.set_cons_succ]
        go_big_quiet_on
        iterate 19 go_big_quiet_step (fail)
        refine wpQuiet_nil ?_
        rintro _ ⟨x, rfl⟩
        obtain ⟨Z3, hx⟩ : ∃ Z3, Z3 = x.w := ⟨_, rfl⟩
        have STe := Lib.hid (show Mine w Z3 _ _ by rw [hx]; exact STd.out.call x.h)
        rw [← hx]
        clear hx x STd q4 q3 c0 c1' c3 hn9 hn8 hn7 hn6 hmin gN sN hw
        have HCH := Lib.hid (show chW s (i + 1) = [.string Rr, .string TX, .string ⟨#[]⟩, .bool true, .bool false] by show [Value.string Rr, .string (txtI Kk i (i * s)), .string ⟨#[]⟩, .bool true, .bool false] = _; rw [hp, HTX.out])
        by_cases hi0 : i = 0
        · have dz : decide (i = 0) = true := by simp [hi0]
          have dz2 : decide ((i : Int) = 0) = true := by simp [hi0]
          have dz3 : ((i : Int) == 0) = true := by simp [hi0]
          have HI0 := Lib.hid hi0
          clear hi0
          go_wp2_with (first | (with_reducible refine wpList_loadR rfl 36 (.tmp 12) rfl (STe.out.row (i := 0) rfl) rfl Tryz.underlying36 rfl (sizeCh _ _ _ _ _) ?_) | (with_reducible refine wpList_storeS STe.out 3 rfl 36 (.tmp 7) (.tmp 100) rfl [.string Rr, .string TX, .string ⟨#[]⟩, .bool true, .bool false] _ rfl rfl rfl rfl (lenW _ _ _ _ _ _ _) (sizeCh _ _ _ _ _) (ch_one _ _ _ _ _) ?_))
          intro Z4 STf
          clear STe
          go_wp2_with (first | (with_reducible refine wpList_loadR rfl 36 (.tmp 12) rfl (STf.out.row (i := 0) rfl) rfl Tryz.underlying36 rfl (sizeCh _ _ _ _ _) ?_) | (with_reducible refine wpList_storeS STf.out 2 rfl 36 (.tmp 8) (.tmp 101) rfl [.string Rr, .string TX, .string ⟨#[]⟩, .bool true, .bool false] _ rfl rfl rfl rfl (lenW _ _ _ _ _ _ _) (sizeCh _ _ _ _ _) (ch_one _ _ _ _ _) ?_))
          intro Z5 STg
          clear STf
          go_wp2_with (first | (with_reducible refine wpList_loadR rfl 49 (.tmp 11) rfl (STg.out.row (i := 1) rfl) rfl Tryz.underlying49 rfl (sizeG _ _ _ _ _) ?_) | (with_reducible refine wpList_storeS STg.out 4 rfl 49 (.tmp 5) (.tmp 102) rfl [.string Rr, .string Kk, .int .i64 1099511627776, .int .i64 (i + 1), .slice (some ⟨b9, o9, none⟩) n1 c1] _ rfl rfl rfl rfl (lenG _ _ _ _ _ _ _ _ _ _) (sizeG _ _ _ _ _) (g_one _ _ _ _ _ _ _) ?_))
          intro Z6' STh
          clear STg
          go_wp2_with fail

          go_roundw
          case rel =>
            exact ⟨i + 1, rfl, by omega, Lib.hid ⟨some ⟨b9, o9, none⟩, c1, n1, HN1.out, (fun h => by cases h), by
            rw [HCH.out, show min (i + 1) 1 = i + 1 by have := HI0.out; omega, HCH.out]
            refine (show Mine w Z6' _ _ from STh.out.tail.tail).less (fun F hF => ?_)
            simp only [List.mem_cons, List.not_mem_nil, or_false] at hF ⊢
            rcases hF with rfl | rfl
            · exact .inl rfl
            · exact .inr (.inr rfl)⟩⟩
          case measure => simp [intOf]; omega
        · have dz : decide (i = 0) = false := by simp [hi0]
          have dz2 : decide ((i : Int) = 0) = false := by simp [hi0]
          have dz3 : ((i : Int) == 0) = false := by simp [hi0]
          have HI0 := Lib.hid hi0
          clear hi0
          go_wp2_with (first | (with_reducible refine wpList_loadR rfl 36 (.tmp 12) rfl (STe.out.row (i := 0) rfl) rfl Tryz.underlying36 rfl (sizeCh _ _ _ _ _) ?_) | (with_reducible refine wpList_storeS STe.out 2 rfl 36 (.tmp 8) (.tmp 101) rfl [.string Rr, .string TX, .string ⟨#[]⟩, .bool true, .bool false] _ rfl rfl rfl rfl (lenW _ _ _ _ _ _ _) (sizeCh _ _ _ _ _) (ch_one _ _ _ _ _) ?_))
          intro Z5 STg
          clear STe
          go_wp2_with (first | (with_reducible refine wpList_loadR rfl 49 (.tmp 11) rfl (STg.out.row (i := 1) rfl) rfl Tryz.underlying49 rfl (sizeG _ _ _ _ _) ?_) | (with_reducible refine wpList_storeS STg.out 4 rfl 49 (.tmp 5) (.tmp 102) rfl [.string Rr, .string Kk, .int .i64 1099511627776, .int .i64 (i + 1), .slice (some ⟨b9, o9, none⟩) n1 c1] _ rfl rfl rfl rfl (lenG _ _ _ _ _ _ _ _ _ _) (sizeG _ _ _ _ _) (g_one _ _ _ _ _ _ _) ?_))
          intro Z6' STh
          clear STg
          go_wp2_with fail
          go_roundw
          case rel =>
            exact ⟨i + 1, rfl, by omega, Lib.hid ⟨some ⟨b9, o9, none⟩, c1, n1, HN1.out, (fun h => by cases h), by
            rw [HCH.out, show min (i + 1) 1 = min i 1 by have := HI0.out; omega]
            refine (show Mine w Z6' _ _ from STh.out.tail.tail).less (fun F hF => ?_)
            simp only [List.mem_cons, List.not_mem_nil, or_false] at hF ⊢
            rcases hF with rfl | rfl
            · exact .inl rfl
            · exact .inr (.inr rfl)⟩⟩
          case measure => simp [intOf]; omega
    · as_aux_lemma =>
        have hd : decide (i < 1 + r) = false := by simp; omega
        have hd2 : decide ((i : Int) < 1 + (r : Int)) = false := by simp; omega
        obtain rfl : i = r + 1 := by omega
        obtain ⟨A, c, n, hn, hnil, ST⟩ := HI.out
        rw [show min (r + 1) 1 = 0 + 1 by omega, show chW s (r + 1) = [.string Rr, .string (NNk s r).v, .string ⟨#[]⟩, .bool true, .bool false] from rfl, show chW s (0 + 1) = [.string Rr, .string (NNk s 0).v, .string ⟨#[]⟩, .bool true, .bool false] from rfl] at ST
        have ST := Lib.hid ST
        have HN := Lib.hid hn
        have HNL := Lib.hid hnil
        have NL := Lib.hid (NNs_len s (r + 1))
        clear HI hn hnil
        go_wp2_with fail
        clear hd hd2
        obtain ⟨V, hV⟩ : ∃ V, V = ansL 0 true (XC (byteL Us) (byteL Rr) (byteL ((NNk s r).v)) [] (byteL Ps) 1 false []) := ⟨_, rfl⟩
        have HV := Lib.hid hV
        clear hV
        refine region_put (by kernel_rfl) (by kernel_rfl) (fun j W v => ((([.eq (.agg #[.string Rr, .string (NNk s r).v, .string ⟨#[]⟩, .bool true, .bool false]), .eq (.agg #[.string Us, .string ⟨#[]⟩, .string ⟨#[]⟩, .string ⟨#[]⟩, .string ⟨#[]⟩, .string ⟨#[]⟩, .string ⟨#[]⟩, .int .i64 1, .bool false]), .inv, .ans, .ans, .msg, .err, .any, .any, .err] : List Ask)).getD j .any).holds V [] none 0 0 W v) 7 8 5 15 108 41 41 Z6 (by kernel_rfl) (by kernel_rfl) _ _ _ rfl rfl ?halloc rfl rfl rfl rfl rfl (by kernel_rfl) (by kernel_rfl) (by decide) (by decide) size6 (fun W v h => Ask.cells h) (fun j v W W' hb h => Ask.below hb h) (fun j v W b us _ hr _ h => Ask.setRow hr h) ?hstep ?hend
        case halloc => exact fun W ev => exec_alloc rfl zeroM6
        case hstep =>
          intro j o h1 h2 ho a' W hB hF hD
          match j, ho with
          | 0, ho =>
            obtain rfl := Option.some.inj ho
            exact wp_load1 36 (.tmp 8) rfl _ 0 [.string Rr, .string (NNk s r).v, .string ⟨#[]⟩, .bool true, .bool false] _ ((free_eval hF (by kernel_rfl)).trans rfl) (((ST.out.row (i := 0) rfl).below hB)).range Tryz.underlying36 rfl sizeCh5 ⟨_, rfl, Below.refl _ _, rfl⟩
          | 1, ho =>
            obtain rfl := Option.some.inj ho
            exact wp_build1 23 _ rfl [(0, .string ⟨#[117]⟩), (7, .int .i64 1)] (by simp only [List.map_toArray, List.map_cons, List.map_nil]; rfl) #[.string Us, .string ⟨#[]⟩, .string ⟨#[]⟩, .string ⟨#[]⟩, .string ⟨#[]⟩, .string ⟨#[]⟩, .string ⟨#[]⟩, .int .i64 1, .bool false] (by kernel_rfl) ⟨_, rfl, Below.refl _ _, rfl⟩
          | 2, ho =>
            obtain rfl := Option.some.inj ho
            refine wp_call1 33 _ _ rfl #[.slice none 0 0] (by simp only [List.map_toArray, List.map_cons, List.map_nil]; rfl) (enters_of Tryz.func33 (by kernel_rfl) rfl) ((invite_any none 0 0 W).mono ?_)
            rintro e W2 ⟨hb, b, rfl, hr⟩
            exact ⟨_, rfl, _, rfl, hb, b, rfl, hr⟩
          | 3, ho =>
            obtain rfl := Option.some.inj ho
            have hx0 := dep_eval hD 0 (by kernel_rfl) rfl rfl
            have hx2 := dep_eval hD 1 (by kernel_rfl) rfl rfl
            have hx3 := dep_eval hD 2 (by kernel_rfl) rfl rfl
            replace hx0 : a'.eval (.tmp 104) = .agg #[.string Rr, .string (NNk s r).v, .string ⟨#[]⟩, .bool true, .bool false] := hx0
            replace hx2 : a'.eval (.tmp 105) = .agg #[.string Us, .string ⟨#[]⟩, .string ⟨#[]⟩, .string ⟨#[]⟩, .string ⟨#[]⟩, .string ⟨#[]⟩, .string ⟨#[]⟩, .int .i64 1, .bool false] := hx2
            refine wp_call1 22 _ _ rfl #[.agg #[.string Rr, .string (NNk s r).v, .string ⟨#[]⟩, .bool true, .bool false], .agg #[.string Us, .string ⟨#[]⟩, .string ⟨#[]⟩, .string ⟨#[]⟩, .string ⟨#[]⟩, .string ⟨#[]⟩, .string ⟨#[]⟩, .int .i64 1, .bool false], .string ⟨#[112]⟩, a'.eval (.tmp 106)] (by simp only [List.map_toArray, List.map_cons, List.map_nil, hx0, hx2]; rfl) (enters_of Tryz.func22 (by kernel_rfl) rfl) ((answer_inv Rr (NNk s r).v Us ⟨#[]⟩ Ps false 1 none 0 0 [] W _ hx3 (fun y hy => by cases hy) rfl (by decide) (fun h => absurd h (by simp)) (fun _ => ⟨rfl, rfl⟩) (by decide) (by rw [show ((NNk s r).v).size = 64 from txt_size _ _ _]; decide) (by decide) (by decide) (by decide) (HK.out.below (bthen ST.out.bw hB)) (HS.out.below (bthen ST.out.bw hB))).mono ?_)
            rintro e W2 ⟨u, rfl, hb, hu⟩
            rw [show byteL (⟨#[]⟩ : ByteArray) = [] from rfl, ← HV.out] at hu
            exact ⟨_, rfl, _, rfl, hb, hu⟩
          | 4, ho =>
            obtain rfl := Option.some.inj ho
            exact wp_mv1 (.tmp 107) (.inl rfl) ⟨_, rfl, Below.refl _ _, dep_eval hD 3 (by kernel_rfl) rfl rfl⟩
          | 5, ho =>
            obtain rfl := Option.some.inj ho
            obtain ⟨m, hm, h3⟩ := dep_eval hD 4 (by kernel_rfl) rfl rfl
            exact wp_ext1 (.tmp 103) 0 rfl _ _ hm rfl ⟨_, rfl, Below.refl _ _, h3⟩
          | 6, ho =>
            obtain rfl := Option.some.inj ho
            obtain ⟨m, hm, h3⟩ := dep_eval hD 4 (by kernel_rfl) rfl rfl
            exact wp_ext1 (.tmp 103) 1 rfl _ _ hm rfl ⟨_, rfl, Below.refl _ _, rfl⟩
          | 7, ho => exact absurd rfl h1
          | 8, ho => exact absurd rfl h2
          | 9, ho =>
            obtain rfl := Option.some.inj ho
            exact wp_mv1 (.tmp 109) (.inr rfl) ⟨_, rfl, Below.refl _ _, dep_eval hD 6 (by kernel_rfl) rfl rfl⟩
          | j + 10, ho => simp at ho
        case hend => as_aux_lemma =>
          intro vs W b us hB hlen hv hb h8 h6 hR
          obtain ⟨v0, v1, v2, v3, v4, v5, v6, v7, v8, v9, rfl⟩ : ∃ v0 v1 v2 v3 v4 v5 v6 v7 v8 v9, vs = [v0, v1, v2, v3, v4, v5, v6, v7, v8, v9] := by
            match vs, hlen with
            | [v0, v1, v2, v3, v4, v5, v6, v7, v8, v9], _ => exact ⟨_, _, _, _, _, _, _, _, _, _, rfl⟩
          obtain rfl : v0 = .agg #[.string Rr, .string (NNk s r).v, .string ⟨#[]⟩, .bool true, .bool false] := hv 0 _ _ v0 (by decide) rfl rfl rfl
          obtain rfl : v1 = .agg #[.string Us, .string ⟨#[]⟩, .string ⟨#[]⟩, .string ⟨#[]⟩, .string ⟨#[]⟩, .string ⟨#[]⟩, .string ⟨#[]⟩, .int .i64 1, .bool false] := hv 1 _ _ v1 (by decide) rfl rfl rfl
          have e6 : AnsM V [] W v5 := hv 5 _ _ v5 (by decide) rfl rfl rfl
          obtain rfl : v6 = .int .u8 (errA V) := hv 6 _ _ v6 (by decide) rfl rfl rfl
          obtain rfl : v9 = .int .u8 (errA V) := hv 9 _ _ v9 (by decide) rfl rfl rfl
          obtain rfl : v7 = .pointer (some ⟨b, 0, none⟩) := Option.some.inj h8
          obtain rfl : v5 = .agg us.toArray := Option.some.inj h6
          have STN := Lib.hid (ST.out.call hB); have RM := Lib.hid hR; have E6 := Lib.hid e6
          clear hv hlen h8 h6 hb hB hR e6 ST
          simp only [putL, Act.put, List.setIfInBounds_toArray, List.set_cons_zero, List.set_cons_succ]
          obtain rfl : V = some (valA (XC (byteL Us) (byteL Rr) (byteL ((NNk s r).v)) [] (byteL Ps) 1 false [])) := by
            rw [HV.out, ans_XC (by decide) (by decide) rfl, if_pos]
            rw [show clean (byteL ((NNk s r).v)) = true from txt_clean _ _ _]
            rfl
          clear HV
          rw [show errA (some (valA (XC (byteL Us) (byteL Rr) (byteL ((NNk s r).v)) [] (byteL Ps) 1 false []))) = 0 from rfl]
          obtain ⟨A6, c6, B6, d6, eu, hA6, _⟩ := E6.out
          obtain rfl : us = [.string INVs, .string BOBs, .int .i64 0, .string ⟨#[]⟩, .slice A6 2 c6, .slice B6 0 d6] := by injection eu with eu; simpa using congrArg Array.toList eu
          have HA6 := Lib.hid hA6
          clear eu hA6 E6
        
          go_wp2_with (first | (with_reducible refine wpList_loadR rfl 49 (.tmp 5) rfl (STN.out.row (i := 2) rfl) rfl Tryz.underlying49 rfl (sizeG _ _ _ _ _) ?_) | (with_reducible refine wpList_loadR rfl 41 (.tmp 15) rfl RM.out rfl Tryz.underlying41 rfl (sizeL6 _ _ _ _ _ _) ?_))
          have VQ := Lib.hid (verify_any Rr Kk INVs BOBs ⟨#[]⟩ 1099511627776 (r + 1) 0 1099511627776 A (some ⟨X2.heap.size, 0, none⟩) A6 B6 n c 1 1 2 c6 0 d6 (NNs s (r + 1)) [(Us, SE)] (TwoH (XC (byteL Us) (byteL Rr) (byteL ((NNk s r).v)) [] (byteL Ps) 1 false [])) [] W (STN.out.fact (i := 0) rfl) HN.out (by have := NL.out; have := HN.out; omega)
            (fun _ => ⟨X2.heap.size, 0, rfl, (show Row W X2.heap.size 54 [.string Us, .string SE] from STN.out.fact (i := 1) rfl).lt, fun j u hu => by rw [Nat.zero_add, (show Row W X2.heap.size 54 [.string Us, .string SE] from STN.out.fact (i := 1) rfl).cell]; exact hu⟩) rfl (by decide) (fun h hh => by
              rw [List.mem_singleton] at hh; subst hh
              show SE.size ≤ _
              rw [SEQ.out, num_size, hashL_len]; decide) HA6.out rfl (by decide) (fun h hh => by
              unfold TwoH at hh
              rcases List.mem_cons.1 hh with rfl | hh
              · decide
              · rw [List.mem_singleton] at hh; subst hh
                refine ⟨by show AUTHs.size ≤ _; decide, ?_⟩
                show (strOfNums _).size ≤ _
                rw [num_size]
                have := valA_len (c := XC (byteL Us) (byteL Rr) (byteL ((NNk s r).v)) [] (byteL Ps) 1 false []) (by
                  rw [XC_eq]
                  dsimp only
                  rw [byteL_len, byteL_len, byteL_len, byteL_len, XP_len, show ((NNk s r).v).size = 64 from txt_size _ _ _]
                  decide)
                omega) (fun y hy => by cases hy) rfl (by decide) (fun h => absurd h (by simp)) (by decide) (by decide) (by decide) (by decide) HNL.out (HK.out.below STN.out.bw) (HS.out.below STN.out.bw))
          
          obtain ⟨V1, hV1⟩ : ∃ V1, V1 = verL Rr Kk 1099511627776 ((r : Int) + 1) 0 1099511627776 (NNs s (r + 1)) [(Us, SE)] (TwoH (XC (byteL Us) (byteL Rr) (byteL ((NNk s r).v)) [] (byteL Ps) 1 false [])) INVs BOBs [] := ⟨_, rfl⟩
          rw [← hV1] at VQ
          have VE := Lib.hid (show V1.q = 0 from hV1 ▸ (NNs_ver (s := s) (i := r + 1) (q := r) (SE := SE) s0 s1 (by omega) (by omega) SEQ.out).trans (if_pos (NNs_new (i := r + 1) (by omega))))
          clear hV1
          refine VQ.out.mono ?_
          clear VQ
          rintro e Z ⟨hbz, A9, c9, rfl, hA9⟩
          rw [VE.out]
          have STz := Lib.hid (STN.out.call hbz)
          clear hbz hA9 STN RM HA6 VE
          go_wp2_with (with_reducible refine wpList_storeN rfl 49 (.tmp 17) (.tmp 115) rfl [.string ⟨#[]⟩, .string ⟨#[]⟩, .int .i64 0, .int .i64 0, .slice none 0 0] [.string V1.re, .string V1.ke, .int .i64 V1.life, .int .i64 V1.iss, .slice A9 V1.l.length c9] rfl rfl (lenG _ _ _ _ _ _ _ _ _ _) (sizeG _ _ _ _ _) (g_one _ _ _ _ _ _ _) ?_)
          intro Za _ BZa
          have STa := Lib.hid (STz.out.call BZa.out)
          clear BZa STz
          go_wp2_with fail
          obtain ⟨b9, o9, hA9, hb9, hc9⟩ := (show Rds Za Za.heap.size A (ncs (NNs s (r + 1))) from STa.out.fact (i := 0) rfl) (by rw [ncs_len]; have := NL.out; omega)
          subst hA9
          have HC9 := Lib.hid hc9
          have HB9 := Lib.hid hb9
          clear hc9 hb9
          obtain ⟨T0, hT0⟩ : ∃ T0, T0 = (NNk s 0).v := ⟨_, rfl⟩
          have HT0 := Lib.hid hT0
          obtain ⟨kf, hkf⟩ : ∃ kf : Nat → Bool, kf = fun j => ((NNs s (r + 1)).take j).any (hitN (NNk s 0).v) := ⟨_, rfl⟩
          have kf0 : kf 0 = false := by rw [hkf]; rfl
          have KFS := Lib.hid (show ∀ (j : Nat) (q : Nce), (NNs s (r + 1))[j]? = some q → kf (j + 1) = (kf j || (q.v.toList == T0.toList)) from fun j q hq => by
            rw [hkf, hT0]
            dsimp only
            rw [List.take_add_one, hq, List.any_append]
            simp [hitN])
          have KFN := Lib.hid (show kf n = (NNs s (r + 1)).any (hitN (NNk s 0).v) by rw [hkf]; dsimp only; rw [List.take_of_length_le (by rw [HN.out]; omega)])
          clear hkf hT0
          go_loopw [20, 21] (fun v20 v21 wr => ∃ j : Nat, v20 = .bool (kf j) ∧ v21 = .int .i64 j ∧ j ≤ n ∧ Hid (Below Za.heap.size Za wr)) (fun _ v21 _ => n - (intOf v21).toNat)
          case atStart => exact ⟨0, by rw [kf0], rfl, by omega, Lib.hid (Below.refl _ _)⟩
          case round =>
            obtain ⟨j, rfl, rfl, hj, BR⟩ := hrel
            clear kf0
            have STr := Lib.hid (STa.out.call BR.out)
            have e4 : wr.cell? ⟨w.heap.size, 4, none⟩ = some (.slice (some ⟨b9, o9, none⟩) n c) := (STr.out.row (i := 2) rfl).cell 4
            by_cases hlt : j < n
            · as_aux_lemma =>
                have hd : decide (j < n) = true := by simp [hlt]
                have hd2 : decide ((j : Int) < (n : Int)) = true := by simp; omega
                have j0 : (0 : Int) ≤ (j : Int) := by omega
                have j1 : (j : Int) < (n : Int) := by omega
                have hw : wrap64 ((j : Int) + 1) = (j : Int) + 1 := by have h1 := NL.out; have h2 := HN.out; unfold wrap64; omega
                obtain ⟨q, hq⟩ : ∃ q, (NNs s (r + 1))[j]? = some q := ⟨_, List.getElem?_eq_getElem (by rw [HN.out]; exact hlt)⟩
                have KQ := Lib.hid (KFS.out j q hq)
                cases hk : kf j with
                | true =>
                  rw [hk] at KQ
                  clear hq
                  go_wp2_with fail
                  clear e4 hd hd2
                  refine region_bw (by kernel_rfl) (by kernel_rfl) ?_
                  iterate 13 go_big_quiet_step (fail)
                  refine wpQuiet_nil ?_
                  rintro _ ⟨x, rfl⟩
                  obtain ⟨Z3, hx⟩ : ∃ Z3, Z3 = x.w := ⟨_, rfl⟩
                  have BX := Lib.hid (show Below Za.heap.size Za Z3 by rw [hx]; exact bthen BR.out x.h)
                  rw [← hx]
                  clear hx x
                  go_wp2_with fail
                  go_roundw
                  case rel => exact ⟨j + 1, by rw [KQ.out, Bool.true_or], by rw [hw]; rfl, by omega, BX⟩
                  case measure => rw [hw]; simp [intOf]; omega
                | false =>
                  rw [hk] at KQ
                  have q4 := fun x : BW wr => (STr.out.row (i := 2) rfl).later x 4
                  have q5 : ∀ x : BW wr, x.w.cell? ⟨X2.heap.size + 1, 1, none⟩ = some (.string T0) := fun x => HT0.out ▸ (STr.out.row (i := 1) rfl).later x 1
                  have q6 : ∀ x : BW wr, x.w.cell? ⟨b9, o9 + j * 3, none⟩ = some (.string q.v) := fun x => ((bthen BR.out x.h).cell HB9.out).trans (HC9.out _ _ (ncs_at hq 0 _ rfl))
                  simp only [List.getElem?_cons_succ, List.getElem?_cons_zero] at q4
                  clear hq
                  go_wp2_with fail
                  clear e4 hd hd2
                  refine region_bw (by kernel_rfl) (by kernel_rfl) ?_
                  iterate 13 go_big_quiet_step (fail)
                  refine wpQuiet_nil ?_
                  rintro _ ⟨x, rfl⟩
                  obtain ⟨Z3, hx⟩ : ∃ Z3, Z3 = x.w := ⟨_, rfl⟩
                  have BX := Lib.hid (show Below Za.heap.size Za Z3 by rw [hx]; exact bthen BR.out x.h)
                  rw [← hx]
                  clear hx x q4 q5 q6
                  go_wp2_with fail
                  go_roundw
                  case rel => exact ⟨j + 1, by rw [KQ.out, Bool.false_or], by rw [hw]; rfl, by omega, BX⟩
                  case measure => rw [hw]; simp [intOf]; omega
            · as_aux_lemma =>
                have hd : decide (j < n) = false := by simp [hlt]
                have hd2 : decide ((j : Int) < (n : Int)) = false := by simp; omega
                obtain rfl : j = n := by omega
                rw [KFN.out]
                clear KFS KFN BR STa
                go_wp2_with fail
                clear e4 hd hd2
                have HK2 := Lib.hid (show 64 < r + 1 ∨ (NNs s (r + 1)).any (hitN (NNk s 0).v) = true by
                  by_cases h : 64 < r + 1
                  · exact .inl h
                  · exact .inr (NNs_old (by omega) (by omega)))
                obtain ⟨kp, hkp⟩ : ∃ kp, (NNs s (r + 1)).any (hitN (NNk s 0).v) = kp := ⟨_, rfl⟩
                rw [hkp] at HK2
                rw [hkp]
                have KP := Lib.hid hkp
                clear hkp
                obtain ⟨V, hV⟩ : ∃ V, V = ansL 0 true (XC (byteL Us) (byteL Rr) (byteL ((NNk s 0).v)) [] (byteL Ps) 1 false []) := ⟨_, rfl⟩
                have HV := Lib.hid hV
                clear hV
                refine region_put (by kernel_rfl) (by kernel_rfl) (fun j W v => ((([.eq (.agg #[.string Rr, .string (NNk s 0).v, .string ⟨#[]⟩, .bool true, .bool false]), .eq (.agg #[.string Us, .string ⟨#[]⟩, .string ⟨#[]⟩, .string ⟨#[]⟩, .string ⟨#[]⟩, .string ⟨#[]⟩, .string ⟨#[]⟩, .int .i64 1, .bool false]), .inv, .ans, .ans, .msg, .err, .any, .any, .err] : List Ask)).getD j .any).holds V [] none 0 0 W v) 7 8 5 22 148 41 41 Z6 (by kernel_rfl) (by kernel_rfl) _ _ _ rfl rfl ?halloc rfl rfl rfl rfl rfl (by kernel_rfl) (by kernel_rfl) (by decide) (by decide) size6 (fun W v h => Ask.cells h) (fun j v W W' hb h => Ask.below hb h) (fun j v W b us _ hr _ h => Ask.setRow hr h) ?hstep ?hend
                case halloc => exact fun W ev => exec_alloc rfl zeroM6
                case hstep =>
                  intro j o h1 h2 ho a' W hB hF hD
                  match j, ho with
                  | 0, ho =>
                    obtain rfl := Option.some.inj ho
                    exact wp_load1 36 (.tmp 7) rfl _ 0 [.string Rr, .string (NNk s 0).v, .string ⟨#[]⟩, .bool true, .bool false] _ ((free_eval hF (by kernel_rfl)).trans rfl) (((STr.out.row (i := 1) rfl).below hB)).range Tryz.underlying36 rfl sizeCh5 ⟨_, rfl, Below.refl _ _, rfl⟩
                  | 1, ho =>
                    obtain rfl := Option.some.inj ho
                    exact wp_build1 23 _ rfl [(0, .string ⟨#[117]⟩), (7, .int .i64 1)] (by simp only [List.map_toArray, List.map_cons, List.map_nil]; rfl) #[.string Us, .string ⟨#[]⟩, .string ⟨#[]⟩, .string ⟨#[]⟩, .string ⟨#[]⟩, .string ⟨#[]⟩, .string ⟨#[]⟩, .int .i64 1, .bool false] (by kernel_rfl) ⟨_, rfl, Below.refl _ _, rfl⟩
                  | 2, ho =>
                    obtain rfl := Option.some.inj ho
                    refine wp_call1 33 _ _ rfl #[.slice none 0 0] (by simp only [List.map_toArray, List.map_cons, List.map_nil]; rfl) (enters_of Tryz.func33 (by kernel_rfl) rfl) ((invite_any none 0 0 W).mono ?_)
                    rintro e W2 ⟨hb, b, rfl, hr⟩
                    exact ⟨_, rfl, _, rfl, hb, b, rfl, hr⟩
                  | 3, ho =>
                    obtain rfl := Option.some.inj ho
                    have hx0 := dep_eval hD 0 (by kernel_rfl) rfl rfl
                    have hx2 := dep_eval hD 1 (by kernel_rfl) rfl rfl
                    have hx3 := dep_eval hD 2 (by kernel_rfl) rfl rfl
                    replace hx0 : a'.eval (.tmp 144) = .agg #[.string Rr, .string (NNk s 0).v, .string ⟨#[]⟩, .bool true, .bool false] := hx0
                    replace hx2 : a'.eval (.tmp 145) = .agg #[.string Us, .string ⟨#[]⟩, .string ⟨#[]⟩, .string ⟨#[]⟩, .string ⟨#[]⟩, .string ⟨#[]⟩, .string ⟨#[]⟩, .int .i64 1, .bool false] := hx2
                    refine wp_call1 22 _ _ rfl #[.agg #[.string Rr, .string (NNk s 0).v, .string ⟨#[]⟩, .bool true, .bool false], .agg #[.string Us, .string ⟨#[]⟩, .string ⟨#[]⟩, .string ⟨#[]⟩, .string ⟨#[]⟩, .string ⟨#[]⟩, .string ⟨#[]⟩, .int .i64 1, .bool false], .string ⟨#[112]⟩, a'.eval (.tmp 146)] (by simp only [List.map_toArray, List.map_cons, List.map_nil, hx0, hx2]; rfl) (enters_of Tryz.func22 (by kernel_rfl) rfl) ((answer_inv Rr (NNk s 0).v Us ⟨#[]⟩ Ps false 1 none 0 0 [] W _ hx3 (fun y hy => by cases hy) rfl (by decide) (fun h => absurd h (by simp)) (fun _ => ⟨rfl, rfl⟩) (by decide) (by rw [show ((NNk s 0).v).size = 64 from txt_size _ _ _]; decide) (by decide) (by decide) (by decide) (HK.out.below (bthen STr.out.bw hB)) (HS.out.below (bthen STr.out.bw hB))).mono ?_)
                    rintro e W2 ⟨u, rfl, hb, hu⟩
                    rw [show byteL (⟨#[]⟩ : ByteArray) = [] from rfl, ← HV.out] at hu
                    exact ⟨_, rfl, _, rfl, hb, hu⟩
                  | 4, ho =>
                    obtain rfl := Option.some.inj ho
                    exact wp_mv1 (.tmp 147) (.inl rfl) ⟨_, rfl, Below.refl _ _, dep_eval hD 3 (by kernel_rfl) rfl rfl⟩
                  | 5, ho =>
                    obtain rfl := Option.some.inj ho
                    obtain ⟨m, hm, h3⟩ := dep_eval hD 4 (by kernel_rfl) rfl rfl
                    exact wp_ext1 (.tmp 143) 0 rfl _ _ hm rfl ⟨_, rfl, Below.refl _ _, h3⟩
                  | 6, ho =>
                    obtain rfl := Option.some.inj ho
                    obtain ⟨m, hm, h3⟩ := dep_eval hD 4 (by kernel_rfl) rfl rfl
                    exact wp_ext1 (.tmp 143) 1 rfl _ _ hm rfl ⟨_, rfl, Below.refl _ _, rfl⟩
                  | 7, ho => exact absurd rfl h1
                  | 8, ho => exact absurd rfl h2
                  | 9, ho =>
                    obtain rfl := Option.some.inj ho
                    exact wp_mv1 (.tmp 149) (.inr rfl) ⟨_, rfl, Below.refl _ _, dep_eval hD 6 (by kernel_rfl) rfl rfl⟩
                  | j + 10, ho => simp at ho
                case hend => as_aux_lemma =>
                  intro vs W b us hB hlen hv hb h8 h6 hR
                  obtain ⟨v0, v1, v2, v3, v4, v5, v6, v7, v8, v9, rfl⟩ : ∃ v0 v1 v2 v3 v4 v5 v6 v7 v8 v9, vs = [v0, v1, v2, v3, v4, v5, v6, v7, v8, v9] := by
                    match vs, hlen with
                    | [v0, v1, v2, v3, v4, v5, v6, v7, v8, v9], _ => exact ⟨_, _, _, _, _, _, _, _, _, _, rfl⟩
                  obtain rfl : v0 = .agg #[.string Rr, .string (NNk s 0).v, .string ⟨#[]⟩, .bool true, .bool false] := hv 0 _ _ v0 (by decide) rfl rfl rfl
                  obtain rfl : v1 = .agg #[.string Us, .string ⟨#[]⟩, .string ⟨#[]⟩, .string ⟨#[]⟩, .string ⟨#[]⟩, .string ⟨#[]⟩, .string ⟨#[]⟩, .int .i64 1, .bool false] := hv 1 _ _ v1 (by decide) rfl rfl rfl
                  have e6 : AnsM V [] W v5 := hv 5 _ _ v5 (by decide) rfl rfl rfl
                  obtain rfl : v6 = .int .u8 (errA V) := hv 6 _ _ v6 (by decide) rfl rfl rfl
                  obtain rfl : v9 = .int .u8 (errA V) := hv 9 _ _ v9 (by decide) rfl rfl rfl
                  obtain rfl : v7 = .pointer (some ⟨b, 0, none⟩) := Option.some.inj h8
                  obtain rfl : v5 = .agg us.toArray := Option.some.inj h6
                  have STN := Lib.hid (STr.out.call hB); have RM := Lib.hid hR; have E6 := Lib.hid e6
                  clear hv hlen h8 h6 hb hB hR e6 STr
                  simp only [putL, Act.put, List.setIfInBounds_toArray, List.set_cons_zero, List.set_cons_succ]
                  obtain rfl : V = some (valA (XC (byteL Us) (byteL Rr) (byteL ((NNk s 0).v)) [] (byteL Ps) 1 false [])) := by
                    rw [HV.out, ans_XC (by decide) (by decide) rfl, if_pos]
                    rw [show clean (byteL ((NNk s 0).v)) = true from txt_clean _ _ _]
                    rfl
                  clear HV
                  rw [show errA (some (valA (XC (byteL Us) (byteL Rr) (byteL ((NNk s 0).v)) [] (byteL Ps) 1 false []))) = 0 from rfl]
                  obtain ⟨A6, c6, B6, d6, eu, hA6, _⟩ := E6.out
                  obtain rfl : us = [.string INVs, .string BOBs, .int .i64 0, .string ⟨#[]⟩, .slice A6 2 c6, .slice B6 0 d6] := by injection eu with eu; simpa using congrArg Array.toList eu
                  have HA6 := Lib.hid hA6
                  clear eu hA6 E6
                
                  go_wp2_with (first | (with_reducible refine wpList_loadR rfl 49 (.tmp 5) rfl (STN.out.row (i := 2) rfl) rfl Tryz.underlying49 rfl (sizeG _ _ _ _ _) ?_) | (with_reducible refine wpList_loadR rfl 41 (.tmp 22) rfl RM.out rfl Tryz.underlying41 rfl (sizeL6 _ _ _ _ _ _) ?_))
                  have VQ := Lib.hid (verify_any Rr Kk INVs BOBs ⟨#[]⟩ 1099511627776 (r + 1) 0 1099511627776 (some ⟨b9, o9, none⟩) (some ⟨X2.heap.size, 0, none⟩) A6 B6 j c 1 1 2 c6 0 d6 (NNs s (r + 1)) [(Us, SE)] (TwoH (XC (byteL Us) (byteL Rr) (byteL ((NNk s 0).v)) [] (byteL Ps) 1 false [])) [] W (STN.out.fact (i := 0) rfl) HN.out (by have := NL.out; have := HN.out; omega)
                    (fun _ => ⟨X2.heap.size, 0, rfl, (show Row W X2.heap.size 54 [.string Us, .string SE] from STN.out.fact (i := 1) rfl).lt, fun j u hu => by rw [Nat.zero_add, (show Row W X2.heap.size 54 [.string Us, .string SE] from STN.out.fact (i := 1) rfl).cell]; exact hu⟩) rfl (by decide) (fun h hh => by
                      rw [List.mem_singleton] at hh; subst hh
                      show SE.size ≤ _
                      rw [SEQ.out, num_size, hashL_len]; decide) HA6.out rfl (by decide) (fun h hh => by
                      unfold TwoH at hh
                      rcases List.mem_cons.1 hh with rfl | hh
                      · decide
                      · rw [List.mem_singleton] at hh; subst hh
                        refine ⟨by show AUTHs.size ≤ _; decide, ?_⟩
                        show (strOfNums _).size ≤ _
                        rw [num_size]
                        have := valA_len (c := XC (byteL Us) (byteL Rr) (byteL ((NNk s 0).v)) [] (byteL Ps) 1 false []) (by
                          rw [XC_eq]
                          dsimp only
                          rw [byteL_len, byteL_len, byteL_len, byteL_len, XP_len, show ((NNk s 0).v).size = 64 from txt_size _ _ _]
                          decide)
                        omega) (fun y hy => by cases hy) rfl (by decide) (fun h => absurd h (by simp)) (by decide) (by decide) (by decide) (by decide) HNL.out (HK.out.below STN.out.bw) (HS.out.below STN.out.bw))
                  
                  obtain ⟨V2, hV2⟩ : ∃ V2, V2 = verL Rr Kk 1099511627776 ((r : Int) + 1) 0 1099511627776 (NNs s (r + 1)) [(Us, SE)] (TwoH (XC (byteL Us) (byteL Rr) (byteL ((NNk s 0).v)) [] (byteL Ps) 1 false [])) INVs BOBs [] := ⟨_, rfl⟩
                  rw [← hV2] at VQ
                  have VE := Lib.hid (show V2.q = (if kp = true then 0 else 13) from hV2 ▸ (NNs_ver (s := s) (i := r + 1) (q := 0) (SE := SE) s0 s1 (by omega) (by omega) SEQ.out).trans (by rw [KP.out]))
                  clear hV2
                  refine VQ.out.mono ?_
                  clear VQ
                  rintro e Z2 ⟨hbz, A9, c9, rfl, hA9⟩
                  cases kp with
                  | true =>
                    rw [VE.out, if_pos rfl]
                    have STz := Lib.hid (STN.out.call hbz)
                    clear hbz hA9 STN RM HA6 VE
                    go_wp2_with (with_reducible refine wpList_storeN rfl 49 (.tmp 23) (.tmp 155) rfl [.string ⟨#[]⟩, .string ⟨#[]⟩, .int .i64 0, .int .i64 0, .slice none 0 0] [.string V2.re, .string V2.ke, .int .i64 V2.life, .int .i64 V2.iss, .slice A9 V2.l.length c9] rfl rfl (lenG _ _ _ _ _ _ _ _ _ _) (sizeG _ _ _ _ _) (g_one _ _ _ _ _ _ _) ?_)
                    intro Zb _ BZb
                    have STb := Lib.hid (STz.out.call BZb.out)
                    clear BZb STz
                    go_wp2_with fail
                    refine (awake_any _ (HG.out.below STb.out.bw)).mono ?_
                    rintro e w9 ⟨rfl, hb9⟩
                    have B9 := Lib.hid (bthen STb.out.bw hb9)
                    clear hb9
                    go_wp2_with fail
                    go_ret
                    exact ⟨rfl, B9.out⟩
                  | false =>
                    rw [VE.out, if_neg (by decide)]
                    have STz := Lib.hid (STN.out.call hbz)
                    clear hbz hA9 STN RM HA6 VE
                    go_wp2_with (with_reducible refine wpList_storeN rfl 49 (.tmp 23) (.tmp 155) rfl [.string ⟨#[]⟩, .string ⟨#[]⟩, .int .i64 0, .int .i64 0, .slice none 0 0] [.string V2.re, .string V2.ke, .int .i64 V2.life, .int .i64 V2.iss, .slice A9 V2.l.length c9] rfl rfl (lenG _ _ _ _ _ _ _ _ _ _) (sizeG _ _ _ _ _) (g_one _ _ _ _ _ _ _) ?_)
                    intro Zb _ BZb
                    have STb := Lib.hid (STz.out.call BZb.out)
                    clear BZb STz
                    have hgt : 64 < r + 1 := by rcases HK2.out with h | h; exact h; cases h
                    have dg : decide ((64 : Int) < 1 + (r : Int)) = true := by simp; omega
                    have dg2 : decide (64 < 1 + r) = true := by simp; omega
                    go_wp2_with fail
                    refine (awake_any _ (HG.out.below STb.out.bw)).mono ?_
                    rintro e w9 ⟨rfl, hb9⟩
                    have B9 := Lib.hid (bthen STb.out.bw hb9)
                    clear hb9
                    go_wp2_with fail
                    go_ret
                    exact ⟨rfl, B9.out⟩
end Go.Proofs.YtfhbpgickkibmaaGreatDoor
