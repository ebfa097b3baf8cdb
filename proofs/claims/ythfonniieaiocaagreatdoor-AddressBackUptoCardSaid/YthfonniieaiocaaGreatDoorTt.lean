/- The reference's Equal, the law AddressPrints. The law AddressBack. -/
import Derived.Test.YthfonniieaiocaaGreatDoorTf
import Derived.Test.YthfonniieaiocaaGreatDoorYa
import Derived.BigQuiet
import Derived.Test.YthfonniieaiocaaGreatDoorTs
import Derived.Test.YthfonniieaiocaaGreatDoorFe
set_option linter.unusedVariables false
set_option linter.unusedSimpArgs false
namespace Go.Proofs.YthfonniieaiocaaGreatDoor
open Go.RowKit

end Go.Proofs.YthfonniieaiocaaGreatDoor
namespace Go.Proofs.YthfonniieaiocaaGreatDoor
open Go.RowKit

def BckAs (a : Adr) (x : Uri) (g1 g10 g13 : Nat) (A3 D1 D2 D3 E1 E2 : Option Addr) (c3 d1 d2 d3 e1 e2 : Nat) : List (World → Value → Prop) := [
  fun _ v => v = (.int .u8 0),
  fun _ v => v = (.bool true),
  fun _ v => v = (.bool true),
  fun _ v => v = (.int .i64 0),
  fun _ v => v = (.bool true),
  fun _ v => v = (.bool true),
  fun _ v => v = (.bool true),
  fun _ v => v = (.int .u8 0),
  fun _ v => v = (.bool true),
  fun _ v => v = (.bool true),
  fun _ v => v = (.bool true),
  fun _ v => v = (.pointer (some ⟨g10, 0, none⟩)),
  fun _ v => v = (.string (strOfNums a.ds)),
  fun _ v => v = (.pointer (some ⟨g1, 0, none⟩)),
  fun _ v => v = (.string (strOfNums a.ds)),
  fun _ v => v = (.bool true),
  fun _ v => v = (.bool true),
  fun _ v => v = (.bool true),
  fun _ v => v = (.pointer (some ⟨g10, 1, none⟩)),
  fun _ v => v = (.agg ([.string (strOfNums x.sc), .string (strOfNums x.us), .string (strOfNums x.ho), .int .i64 x.po, .slice D1 x.ps.length d1, .slice D2 x.hs.length d2] : List Value).toArray),
  fun _ v => v = (.agg ([.string (strOfNums x.sc), .string (strOfNums x.us), .string (strOfNums x.ho), .int .i64 x.po, .slice E1 x.ps.length e1, .slice E2 x.hs.length e2] : List Value).toArray),
  fun _ v => v = (.bool true),
  fun _ v => v = (.bool true),
  fun _ v => v = (.bool true),
  fun _ v => v = (.pointer (some ⟨g10, 7, none⟩)),
  fun _ v => v = (.slice D3 a.ps.length d3),
  fun _ v => v = (.pointer (some ⟨g1, 7, none⟩)),
  fun _ v => v = (.slice A3 a.ps.length c3),
  fun W v => ∃ B d, v = .slice B a.ps.length d ∧ Rds W W.heap.size B (pms (sortPm a.ps)),
  fun _ v => v = (.bool true),
  fun _ v => v = (.bool true),
  fun _ v => v = (.bool true),
  fun _ v => v = (.bool true),
  fun _ v => v = (.bool true),
  fun _ v => v = (.bool true)]
def BckA (a : Adr) (x : Uri) (g1 g10 g13 : Nat) (A3 D1 D2 D3 E1 E2 : Option Addr) (c3 d1 d2 d3 e1 e2 : Nat) (j : Nat) (W : World) (v : Value) : Prop := (BckAs a x g1 g10 g13 A3 D1 D2 D3 E1 E2 c3 d1 d2 d3 e1 e2).getD j (fun _ _ => True) W v
theorem BckA_mono {a : Adr} {x : Uri} {g1 g10 g13 : Nat} {A3 D1 D2 D3 E1 E2 : Option Addr} {c3 d1 d2 d3 e1 e2 : Nat} {j : Nat} {W W' : World} {v : Value} (hb : Below W.heap.size W W') (h : BckA a x g1 g10 g13 A3 D1 D2 D3 E1 E2 c3 d1 d2 d3 e1 e2 j W v) : BckA a x g1 g10 g13 A3 D1 D2 D3 E1 E2 c3 d1 d2 d3 e1 e2 j W' v := by
  refine growsw_get (fun f hf => ?_) j W W' v hb h
  unfold BckAs at hf
  simp only [List.mem_cons, List.not_mem_nil, or_false] at hf
  rcases hf with rfl | rfl | rfl | rfl | rfl | rfl | rfl | rfl | rfl | rfl | rfl | rfl | rfl | rfl | rfl | rfl | rfl | rfl | rfl | rfl | rfl | rfl | rfl | rfl | rfl | rfl | rfl | rfl | rfl | rfl | rfl | rfl | rfl | rfl | rfl
  all_goals first
    | exact growsw_eq _
    | exact growsw_rds _ _
set_option maxRecDepth 100000 in
set_option maxHeartbeats 16000000 in
theorem back_any (a : Adr) (A1 A2 A3 : Option Addr) (c1 c2 c3 : Nat) (w : World) (H : AdG w a A1 A2 A3 c1 c2 c3) (hC : CLS w) (hG : GM w) (hP : PT w) :
    Calls Tryz.prog 14 #[adV9 a A1 A2 A3 c1 c2 c3] w fun e w' => e = .returned (.bool true) ∧ Below w.heap.size w w' := by
  have HU := kd (fun w' (hb : Below w.heap.size w w') => H.step hb)
  have HC := kd (fun w' (hb : Below w.heap.size w w') => hC.below hb); have HG := kd (fun w' (hb : Below w.heap.size w w') => hG.below hb); have HP := kd (fun w' (hb : Below w.heap.size w w') => hP.below hb)
  have AW := kd (fun w' (hb : Below w.heap.size w w') => awake_any w' (hC.below hb) (hG.below hb) (hP.below hb))
  have PA := kd (fun (h40 : a.ps.length ≤ 40) w' (hb : Below w.heap.size w w') => padr_any a A1 A2 A3 c1 c2 c3 w' (HU.out w' hb) h40 (HC.out w' hb) (HG.out w' hb) (HP.out w' hb))
  unfold adV9 at PA
  have PP := kd (fun w' (hb : Below w.heap.size w w') => pprint_any A3 _ c3 a.ps w' (HU.out w' hb).p rfl H.c (Nat.le_trans H.n (by decide)) H.pl (HG.out w' hb) (HP.out w' hb))
  have PBY : PmBy a.ps := fun p hp => ⟨(H.pl p hp).1, (H.pl p hp).2.1⟩
  have PX := kd (fun (s : List Int) (h : ppsL a.ps = some s) (hsb : By s) w' (hb : Below w.heap.size w w') => (show Calls Tryz.prog 39 #[.string (strOfNums s)] w' fun e w2 => ∃ A c, e = .returned (.tuple #[.slice A a.ps.length c, .int .i64 0, .int .u8 0]) ∧ Below w'.heap.size w' w2 ∧ Rds w2 w2.heap.size A (pms a.ps) from by
    have hz := ppsL_sz h
    have hs := H.s
    refine (paramsh_any (strOfNums s) w' (by rw [num_size]; omega) (HG.out w' hb) (HP.out w' hb)).mono ?_
    intro e w2 hp
    rw [byteL_str hsb, (pars_law h).1] at hp
    obtain ⟨A, c, he, hb2, hr, _⟩ := par_both hp
    exact ⟨A, c, he, hb2, hr⟩))
  have SS := kd (fun (w' : World) (A c) (hb : Below w.heap.size w w') (hr : Rds w' w'.heap.size A (pms a.ps)) => (samepms_any A A3 a.ps.length c a.ps.length c3 a.ps a.ps w' hr (HU.out w' hb).p rfl rfl (Nat.le_trans H.n (by decide)) (Nat.le_trans H.n (by decide)) PBY PBY).mono fun e W2 h => (show e = .returned (.bool true) ∧ Below w'.heap.size w' W2 from ⟨by rw [h.1, samePs_self], by obtain ⟨_, y, rfl⟩ := h; exact below_drewN _ _⟩))
  have SBYP := kd (fun s (h : ppsL a.ps = some s) => ppsL_by PBY h)
  have PG := kd (fun (t : List Int) (h : prAdr a = some t) (hl : t.length ≤ 1024) => (show ∃ x, normL a.u = some x ∧ ∀ w' (_ : Below w.heap.size w w'), Calls Tryz.prog 26 #[.string (strOfNums t)] w' fun e w2 => ∃ D1 D2 D3 d1 d2 d3, e = .returned (.tuple #[.agg #[.string (strOfNums a.ds), .string (strOfNums x.sc), .string (strOfNums x.us), .string (strOfNums x.ho), .int .i64 x.po, .slice D1 x.ps.length d1, .slice D2 x.hs.length d2, .slice D3 a.ps.length d3], .int .i64 0, .int .u8 0]) ∧ Below w'.heap.size w' w2 ∧ Rds w2 w2.heap.size D1 (pms x.ps) ∧ Rds w2 w2.heap.size D2 (pms x.hs) ∧ Rds w2 w2.heap.size D3 (pms (sortPm a.ps)) from by
    obtain ⟨x, hx, hr, _⟩ := adr_back H.r.a.by_ h hl
    refine ⟨x, hx, fun w' hb => (parseadr_any (strOfNums t) w' (HC.out w' hb) (HG.out w' hb) (HP.out w' hb)).mono ?_⟩
    intro e w2 hp
    rw [byteL_str (prAdr_by H.d H.r.a.by_ PBY h), hr] at hp
    obtain ⟨v1, v2, v3, rfl, x1, x2, x3⟩ := hp
    obtain ⟨D1, d1, rfl, r1⟩ := x1.rdw
    obtain ⟨D2, d2, rfl, r2⟩ := x2.rdw
    have hb3 := x3.bw
    obtain ⟨D3, d3, rfl, r3⟩ := x3.rdw
    dsimp only at r3 ⊢
    rw [sort_len]
    exact ⟨D1, D2, D3, d1, d2, d3, rfl, hb3, r1, r2, r3⟩))
  have NG := kd (fun (x : Uri) (hx : normL a.u = some x) w' (hb : Below w.heap.size w w') => norm_good hx A1 A2 c1 c2 w' (HU.out w' hb).r.a (HG.out w' hb) (HP.out w' hb))
  unfold uS at NG
  have SO := kd (fun w' (hb : Below w.heap.size w w') => rsorted_any A3 _ c3 a.ps w' (HU.out w' hb).p rfl H.n (fun p hp => (PBY p hp).1))
  have SBY := kd (show PmBy (sortPm a.ps) from fun p hp => PBY p ((sort_perm _).mem_iff.1 hp))
  have RP := kd (Row.new w 38 [.string (strOfNums a.ds), .string (strOfNums a.u.sc), .string (strOfNums a.u.us), .string (strOfNums a.u.ho), .int .i64 a.u.po, .slice A1 a.u.ps.length c1, .slice A2 a.u.hs.length c2, .slice A3 a.ps.length c3])
  have BB := kd ((Below.refl w.heap.size w).alloc (Nat.le_refl _) (.cells ([.string (strOfNums a.ds), .string (strOfNums a.u.sc), .string (strOfNums a.u.us), .string (strOfNums a.u.ho), .int .i64 a.u.po, .slice A1 a.u.ps.length c1, .slice A2 a.u.hs.length c2, .slice A3 a.ps.length c3] : List Value).toArray 38))
  have N1 := H.r.a.l1; have N2 := H.r.a.l2; have N3 := H.n
  obtain ⟨PO, hPO⟩ : ∃ PO, (fun (e : Ending) (w' : World) => e = .returned (.bool true) ∧ Below w.heap.size w w') = PO := ⟨_, rfl⟩
  have FIN := kd (show ∀ w', Below w.heap.size w w' → PO (.returned (.bool true)) w' from fun w' h => by rw [← hPO]; exact ⟨rfl, h⟩)
  rw [hPO]
  clear H hC hG hP hPO PBY
  unfold adV9
  go_enter Tryz.func14, Tryz.ntmps14
  go_upto_region 1 with (fail)
  generalize w.alloc (.cells #[.string (strOfNums a.ds), .string (strOfNums a.u.sc), .string (strOfNums a.u.us), .string (strOfNums a.u.ho), .int .i64 a.u.po, .slice A1 a.u.ps.length c1, .slice A2 a.u.hs.length c2, .slice A3 a.ps.length c3] 38) = w1 at *
  obtain ⟨g1, hg⟩ : ∃ b, w.heap.size = b := ⟨_, rfl⟩
  rw [hg] at RP ⊢
  clear hg
  have k5 : w1.cell? ⟨g1, 5, none⟩ = some (.slice A1 a.u.ps.length c1) := RP.out.cell 5
  have k6 : w1.cell? ⟨g1, 6, none⟩ = some (.slice A2 a.u.hs.length c2) := RP.out.cell 6
  have k7 : w1.cell? ⟨g1, 7, none⟩ = some (.slice A3 a.ps.length c3) := RP.out.cell 7
  by_cases h40 : 40 < a.u.ps.length + a.u.hs.length + a.ps.length
  · have d40' : (40 : Int) < (a.u.ps.length : Int) + (a.u.hs.length : Int) + (a.ps.length : Int) := by omega
    go_wp2_with fail
    refine (AW.out _ BB.out).mono ?_
    rintro _ wz ⟨rfl, hbz⟩
    have BZ := kd (bthen BB.out hbz)
    go_wp2_with fail
    first | exact FIN.out _ BZ.out | (go_ret; exact FIN.out _ BZ.out)
  have d40' : ¬ (40 : Int) < (a.u.ps.length : Int) + (a.u.hs.length : Int) + (a.ps.length : Int) := by omega
  have h40' : a.ps.length ≤ 40 := by omega
  go_upto_region 3 with (fail)
  clear d40' h40 k5 k6 N1 N2 N3 HU HC HG HP
  go_wp2_with fail
  refine (PP.out _ BB.out).mono ?_
  intro e w2 hp
  clear k7 PP
  cases hpp : ppsL a.ps with
  | none =>
    rw [hpp] at hp
    obtain ⟨hb, rfl⟩ := hp
    replace BB := kd (bthen BB.out hb)
    replace RP := kd (RP.out.below hb)
    clear hb hpp PX SS SBYP
    have PX : True := trivial
    go_wp2_with (with_reducible refine wpList_loadR rfl 38 (.tmp 1) rfl RP.out rfl Tryz.underlying38 rfl (size8 _ _ _ _ _ _ _ _) ?_)
    refine (PA.out h40' _ BB.out).mono ?_
    intro e w4 hp
    cases hpa : prAdr a with
    | none =>
      rw [hpa] at hp
      obtain ⟨hb, rfl⟩ := hp
      have B4 := kd (bthen BB.out hb)
      have ee : (((⟨#[]⟩ : ByteArray).toList) == ([] : List UInt8)) = true := by rw [toList_nil.2 rfl]; rfl
      clear hb PA PX PG NG SO
      go_wp2_with fail
      refine (AW.out _ B4.out).mono ?_
      rintro _ wz ⟨rfl, hbz⟩
      have BZ := kd (bthen B4.out hbz)
      go_wp2_with fail
      first | exact FIN.out _ BZ.out | (go_ret; exact FIN.out _ BZ.out)
    | some t =>
    rw [hpa] at hp
    obtain ⟨hb, rfl⟩ := hp
    have B4 := kd (bthen BB.out hb)
    replace RP := kd (RP.out.below hb)
    have PG2 := kd (fun (hl : t.length ≤ 1024) => PG.out t hpa hl)
    have TZ := num_size t
    clear hb PA PG hpa BB
    by_cases hl : 1024 < (strOfNums t).size
    · have dl : decide ((1024 : Int) < ((strOfNums t).size : Int)) = true := by simp; omega
      have dl' : (1024 : Int) < ((strOfNums t).size : Int) := by omega
      clear TZ hl PG2
      generalize strOfNums t = ts at *
      go_wp2_with fail
      refine (AW.out _ B4.out).mono ?_
      rintro _ wz ⟨rfl, hbz⟩
      have BZ := kd (bthen B4.out hbz)
      go_wp2_with fail
      first | exact FIN.out _ BZ.out | (go_ret; exact FIN.out _ BZ.out)
    have dl : decide ((1024 : Int) < ((strOfNums t).size : Int)) = false := by simp; omega
    have dl' : ¬ (1024 : Int) < ((strOfNums t).size : Int) := by omega
    obtain ⟨x, hx, hpg⟩ := PG2.out (by omega)
    have PR := kd hpg
    have NX := kd (NG.out x hx)
    clear TZ hl PG2 hpg hx NG
    generalize strOfNums t = ts at *
    go_wp2_with fail
    refine (PR.out _ B4.out).mono ?_
    rintro e w5 ⟨D1, D2, D3, d1, d2, d3, rfl, hb5, r1, r2, r3⟩
    have B5 := kd (bthen B4.out hb5)
    replace RP := kd (RP.out.below hb5)
    have X1 := kd r1; have X2 := kd r2; have X3 := kd r3
    clear hb5 r1 r2 r3 PR B4 dl dl'
    go_upto_region 14 with (with_reducible refine wpList_storeN rfl 38 (.tmp 10) (.tmp 80) rfl [.string ⟨#[]⟩, .string ⟨#[]⟩, .string ⟨#[]⟩, .string ⟨#[]⟩, .int .i64 0, .slice none 0 0, .slice none 0 0, .slice none 0 0] [.string (strOfNums a.ds), .string (strOfNums x.sc), .string (strOfNums x.us), .string (strOfNums x.ho), .int .i64 x.po, .slice D1 x.ps.length d1, .slice D2 x.hs.length d2, .slice D3 a.ps.length d3] rfl rfl (len8 _ _ _ _ _ _ _ _ _ _ _ _ _ _ _ _) (size8 _ _ _ _ _ _ _ _) (ad_one _ _ _ _ _) ?_; intro w6 RA S6)
    have B6 := kd (bthen B5.out S6.out)
    replace RP := kd (RP.out.below S6.out)
    replace X1 := kd ((X1.out.below S6.out).up S6.out.size); replace X2 := kd ((X2.out.below S6.out).up S6.out.size); replace X3 := kd ((X3.out.below S6.out).up S6.out.size)
    generalize w5.heap.size = g10 at *
    clear S6 B5
    have GM2 := kd (adr_mid RP.out)
    go_wp2_with (with_reducible refine wpList_load_mid rfl 32 (.tmp 84) rfl g1 1 rfl [.string (strOfNums a.u.sc), .string (strOfNums a.u.us), .string (strOfNums a.u.ho), .int .i64 a.u.po, .slice A1 a.u.ps.length c1, .slice A2 a.u.hs.length c2] _ GM2.out Tryz.underlying32 rfl (sizeU _ _ _ _ _ _) ?_)
    refine (NX.out _ B6.out).mono ?_
    rintro e w7 ⟨E1, E2, e1, e2, rfl, hb7, ua⟩
    have UA := kd ua
    have B7 := kd (bthen B6.out hb7)
    replace RP := kd (RP.out.below hb7)
    replace RA := kd (RA.out.below hb7)
    replace X1 := kd ((X1.out.below hb7).up hb7.size); replace X2 := kd ((X2.out.below hb7).up hb7.size); replace X3 := kd ((X3.out.below hb7).up hb7.size)
    clear hb7 ua NX B6 GM2
    go_upto_region 15 with (with_reducible refine wpList_storeN rfl 32 (.tmp 13) (.tmp 87) rfl [.string ⟨#[]⟩, .string ⟨#[]⟩, .string ⟨#[]⟩, .int .i64 0, .slice none 0 0, .slice none 0 0] [.string (strOfNums x.sc), .string (strOfNums x.us), .string (strOfNums x.ho), .int .i64 x.po, .slice E1 x.ps.length e1, .slice E2 x.hs.length e2] rfl rfl (lenU _ _ _ _ _ _ _ _ _ _ _ _) (sizeU _ _ _ _ _ _) (u_one _ _ _ _) ?_; intro w8 RN S8)
    have B8 := kd (bthen B7.out S8.out)
    replace RP := kd (RP.out.below S8.out)
    replace RA := kd (RA.out.below S8.out)
    replace UA := kd (UA.out.step S8.out)
    replace X1 := kd ((X1.out.below S8.out).up S8.out.size); replace X2 := kd ((X2.out.below S8.out).up S8.out.size); replace X3 := kd ((X3.out.below S8.out).up S8.out.size)
    generalize w7.heap.size = g13 at *
    clear S8 B7
    have SA := kd (fun (W : World) (hb : Below w8.heap.size w8 W) => (same_any x x D1 D2 E1 E2 _ _ _ _ d1 d2 e1 e2 W UA.out.by_ UA.out.by_ rfl rfl rfl rfl ((X1.out.below hb).up hb.size) ((X2.out.below hb).up hb.size) (UA.out.step hb).r1 (UA.out.step hb).r2 UA.out.l1 UA.out.l2 UA.out.l1 UA.out.l2).mono fun e W2 h => (show e = .returned (.bool true) ∧ Below W.heap.size W W2 from ⟨by rw [h.1, sameU_iff.2 (show x = x from rfl)], h.2⟩))
    have SB := kd (fun (W : World) (hb : Below w8.heap.size w8 W) (B2 : Option Addr) (k2 : Nat) (r2 : Rds W W.heap.size B2 (pms (sortPm a.ps))) =>
      (samepms_any D3 B2 a.ps.length d3 a.ps.length k2 _ _ W ((X3.out.below hb).up hb.size) r2 (sort_len _) (sort_len _) (by omega) (by omega) SBY.out SBY.out).mono fun e W2 h => (show e = .returned (.bool true) ∧ Below W.heap.size W W2 from ⟨by rw [h.1, samePs_self], by obtain ⟨_, y, rfl⟩ := h; exact below_drewN _ _⟩))
    replace SO := kd (fun (W : World) (hb : Below w8.heap.size w8 W) => SO.out W (bthen B8.out hb))
    have AX := kd (fun (W : World) (hb : Below w8.heap.size w8 W) => AW.out W (bthen B8.out hb))
    clear AW X1 X2 X3 UA SBY
    try dsimp only [List.append]
    refine region_all (by kernel_rfl) (by kernel_rfl) (fun j W v => BckA a x g1 g10 g13 A3 D1 D2 D3 E1 E2 c3 d1 d2 d3 e1 e2 j W v) (by kernel_rfl) (fun j v W W' hb h => BckA_mono hb h) ?hstep ?hend
    case hstep =>
      intro j o ho a' W hB hF hD
      match j, ho with
      | 0, ho =>
        obtain rfl := Option.some.inj ho
        exact (rel_free ho rfl (wp_mv1 (.tmp 12) (.inl rfl) ⟨_, rfl, Below.refl _ _, fun _ _ => (show a'.eval (.tmp 12) = .int .u8 0 from ((free_eval hF (by kernel_rfl)).trans rfl))⟩))
      | 1, ho =>
        obtain rfl := Option.some.inj ho
        have hx : a'.eval (.tmp 89) = .int .u8 0 := (dep_eval hD 0 (by kernel_rfl) rfl rfl)
        have hy : a'.eval (.const (.int .u8 0)) = .int .u8 0 := rfl
        exact (rel_free ho rfl (wp_bin1 _ _ _ _ _ rfl _ _ (.bool true) hx hy (fun w => guard_int _ _ _ _ _ _ _ _) (fun w => eql_int _ _ _ _ _) ⟨_, rfl, Below.refl _ _, fun _ _ => rfl⟩))
      | 2, ho =>
        obtain rfl := Option.some.inj ho
        exact (rel_free ho rfl (wp_mv1 (.tmp 90) (.inl rfl) ⟨_, rfl, Below.refl _ _, fun _ _ => (show a'.eval (.tmp 90) = .bool true from (dep_eval hD 1 (by kernel_rfl) rfl rfl))⟩))
      | 3, ho =>
        obtain rfl := Option.some.inj ho
        exact (rel_guard (b := true) ho rfl (og := _) rfl rfl (dep_eval hD 2 (by kernel_rfl) rfl rfl) (wp_mv1 (.tmp 11) (.inl rfl) ⟨_, rfl, Below.refl _ _, fun _ _ => (show a'.eval (.tmp 11) = .int .i64 0 from ((free_eval hF (by kernel_rfl)).trans rfl))⟩))
      | 4, ho =>
        obtain rfl := Option.some.inj ho
        have hx : a'.eval (.tmp 92) = .int .i64 0 := (dep_eval hD 3 (by kernel_rfl) rfl rfl)
        have hy : a'.eval (.const (.int .i64 0)) = .int .i64 0 := rfl
        exact (rel_guard (b := true) ho rfl (og := _) rfl rfl (dep_eval hD 2 (by kernel_rfl) rfl rfl) (wp_bin1 _ _ _ _ _ rfl _ _ (.bool true) hx hy (fun w => guard_int _ _ _ _ _ _ _ _) (fun w => eql_int _ _ _ _ _) ⟨_, rfl, Below.refl _ _, fun _ _ => rfl⟩))
      | 5, ho =>
        obtain rfl := Option.some.inj ho
        exact (rel_free ho rfl (wp_pick1 (.tmp 91) (.tmp 93) _ rfl (dep_eval hD 2 (by kernel_rfl) rfl rfl) ⟨_, rfl, Below.refl _ _, fun _ _ => (show a'.eval (.tmp 93) = .bool true from (dep_eval hD 4 (by kernel_rfl) rfl rfl))⟩))
      | 6, ho =>
        obtain rfl := Option.some.inj ho
        exact (rel_free ho rfl (wp_mv1 (.tmp 94) (.inl rfl) ⟨_, rfl, Below.refl _ _, fun _ _ => (show a'.eval (.tmp 94) = .bool true from (dep_eval hD 5 (by kernel_rfl) rfl rfl))⟩))
      | 7, ho =>
        obtain rfl := Option.some.inj ho
        exact (rel_guard (b := true) ho rfl (og := _) rfl rfl (dep_eval hD 6 (by kernel_rfl) rfl rfl) (wp_mv1 (.tmp 14) (.inl rfl) ⟨_, rfl, Below.refl _ _, fun _ _ => (show a'.eval (.tmp 14) = .int .u8 0 from ((free_eval hF (by kernel_rfl)).trans rfl))⟩))
      | 8, ho =>
        obtain rfl := Option.some.inj ho
        have hx : a'.eval (.tmp 96) = .int .u8 0 := (dep_eval hD 7 (by kernel_rfl) rfl rfl)
        have hy : a'.eval (.const (.int .u8 0)) = .int .u8 0 := rfl
        exact (rel_guard (b := true) ho rfl (og := _) rfl rfl (dep_eval hD 6 (by kernel_rfl) rfl rfl) (wp_bin1 _ _ _ _ _ rfl _ _ (.bool true) hx hy (fun w => guard_int _ _ _ _ _ _ _ _) (fun w => eql_int _ _ _ _ _) ⟨_, rfl, Below.refl _ _, fun _ _ => rfl⟩))
      | 9, ho =>
        obtain rfl := Option.some.inj ho
        exact (rel_free ho rfl (wp_pick1 (.tmp 95) (.tmp 97) _ rfl (dep_eval hD 6 (by kernel_rfl) rfl rfl) ⟨_, rfl, Below.refl _ _, fun _ _ => (show a'.eval (.tmp 97) = .bool true from (dep_eval hD 8 (by kernel_rfl) rfl rfl))⟩))
      | 10, ho =>
        obtain rfl := Option.some.inj ho
        exact (rel_free ho rfl (wp_mv1 (.tmp 98) (.inl rfl) ⟨_, rfl, Below.refl _ _, fun _ _ => (show a'.eval (.tmp 98) = .bool true from (dep_eval hD 9 (by kernel_rfl) rfl rfl))⟩))
      | 11, ho =>
        obtain rfl := Option.some.inj ho
        exact (rel_guard (b := true) ho rfl (og := _) rfl rfl (dep_eval hD 10 (by kernel_rfl) rfl rfl) (wp_fa1 38 (.tmp 10) 0 rfl g10 0 ((free_eval hF (by kernel_rfl)).trans rfl) (fun w => by kernel_rfl) ⟨_, rfl, Below.refl _ _, fun _ _ => rfl⟩))
      | 12, ho =>
        obtain rfl := Option.some.inj ho
        exact (rel_guard (b := true) ho rfl (og := _) rfl rfl (dep_eval hD 10 (by kernel_rfl) rfl rfl) (wp_ldc1 9 (.tmp 100) rfl g10 0 (.string (strOfNums a.ds)) (dep_eval hD 11 (by kernel_rfl) rfl rfl) ((RA.out.below hB).cell 0) _ Tryz.underlying9 rfl ⟨_, rfl, Below.refl _ _, fun _ _ => rfl⟩))
      | 13, ho =>
        obtain rfl := Option.some.inj ho
        exact (rel_guard (b := true) ho rfl (og := _) rfl rfl (dep_eval hD 10 (by kernel_rfl) rfl rfl) (wp_fa1 38 (.tmp 1) 0 rfl g1 0 ((free_eval hF (by kernel_rfl)).trans rfl) (fun w => by kernel_rfl) ⟨_, rfl, Below.refl _ _, fun _ _ => rfl⟩))
      | 14, ho =>
        obtain rfl := Option.some.inj ho
        exact (rel_guard (b := true) ho rfl (og := _) rfl rfl (dep_eval hD 10 (by kernel_rfl) rfl rfl) (wp_ldc1 9 (.tmp 102) rfl g1 0 (.string (strOfNums a.ds)) (dep_eval hD 13 (by kernel_rfl) rfl rfl) ((RP.out.below hB).cell 0) _ Tryz.underlying9 rfl ⟨_, rfl, Below.refl _ _, fun _ _ => rfl⟩))
      | 15, ho =>
        obtain rfl := Option.some.inj ho
        have hx : a'.eval (.tmp 101) = .string (strOfNums a.ds) := (dep_eval hD 12 (by kernel_rfl) rfl rfl)
        have hy : a'.eval (.tmp 103) = .string (strOfNums a.ds) := (dep_eval hD 14 (by kernel_rfl) rfl rfl)
        exact (rel_guard (b := true) ho rfl (og := _) rfl rfl (dep_eval hD 10 (by kernel_rfl) rfl rfl) (wp_bin1 _ _ _ _ _ rfl _ _ (.bool true) hx hy (fun w => guard_str _ _ _ _ _ _ _) (fun w => eql_str _ _ _ _) ⟨_, rfl, Below.refl _ _, fun _ _ => rfl⟩))
      | 16, ho =>
        obtain rfl := Option.some.inj ho
        exact (rel_free ho rfl (wp_pick1 (.tmp 99) (.tmp 104) _ rfl (dep_eval hD 10 (by kernel_rfl) rfl rfl) ⟨_, rfl, Below.refl _ _, fun _ _ => (show a'.eval (.tmp 104) = .bool true from (dep_eval hD 15 (by kernel_rfl) rfl rfl))⟩))
      | 17, ho =>
        obtain rfl := Option.some.inj ho
        exact (rel_free ho rfl (wp_mv1 (.tmp 105) (.inl rfl) ⟨_, rfl, Below.refl _ _, fun _ _ => (show a'.eval (.tmp 105) = .bool true from (dep_eval hD 16 (by kernel_rfl) rfl rfl))⟩))
      | 18, ho =>
        obtain rfl := Option.some.inj ho
        exact (rel_guard (b := true) ho rfl (og := _) rfl rfl (dep_eval hD 17 (by kernel_rfl) rfl rfl) (wp_fa1 38 (.tmp 10) 1 rfl g10 1 ((free_eval hF (by kernel_rfl)).trans rfl) (fun w => by kernel_rfl) ⟨_, rfl, Below.refl _ _, fun _ _ => rfl⟩))
      | 19, ho =>
        obtain rfl := Option.some.inj ho
        exact (rel_guard (b := true) ho rfl (og := _) rfl rfl (dep_eval hD 17 (by kernel_rfl) rfl rfl) (wp_load1 32 (.tmp 107) rfl g10 1 [.string (strOfNums x.sc), .string (strOfNums x.us), .string (strOfNums x.ho), .int .i64 x.po, .slice D1 x.ps.length d1, .slice D2 x.hs.length d2] _ (dep_eval hD 18 (by kernel_rfl) rfl rfl) (adr_mid (RA.out.below hB)) Tryz.underlying32 rfl (sizeU _ _ _ _ _ _) ⟨_, rfl, Below.refl _ _, fun _ _ => rfl⟩))
      | 20, ho =>
        obtain rfl := Option.some.inj ho
        exact (rel_guard (b := true) ho rfl (og := _) rfl rfl (dep_eval hD 17 (by kernel_rfl) rfl rfl) (wp_load1 32 (.tmp 13) rfl g13 0 [.string (strOfNums x.sc), .string (strOfNums x.us), .string (strOfNums x.ho), .int .i64 x.po, .slice E1 x.ps.length e1, .slice E2 x.hs.length e2] _ ((free_eval hF (by kernel_rfl)).trans rfl) ((RN.out.below hB).range) Tryz.underlying32 rfl (sizeU _ _ _ _ _ _) ⟨_, rfl, Below.refl _ _, fun _ _ => rfl⟩))
      | 21, ho =>
        obtain rfl := Option.some.inj ho
        have hx0 : a'.eval (.tmp 108) = .agg ([.string (strOfNums x.sc), .string (strOfNums x.us), .string (strOfNums x.ho), .int .i64 x.po, .slice D1 x.ps.length d1, .slice D2 x.hs.length d2] : List Value).toArray := (dep_eval hD 19 (by kernel_rfl) rfl rfl)
        have hx1 : a'.eval (.tmp 109) = .agg ([.string (strOfNums x.sc), .string (strOfNums x.us), .string (strOfNums x.ho), .int .i64 x.po, .slice E1 x.ps.length e1, .slice E2 x.hs.length e2] : List Value).toArray := (dep_eval hD 20 (by kernel_rfl) rfl rfl)
        exact (rel_guard (b := true) ho rfl (og := _) rfl rfl (dep_eval hD 17 (by kernel_rfl) rfl rfl) (wp_call1 25 _ _ rfl #[.agg ([.string (strOfNums x.sc), .string (strOfNums x.us), .string (strOfNums x.ho), .int .i64 x.po, .slice D1 x.ps.length d1, .slice D2 x.hs.length d2] : List Value).toArray, .agg ([.string (strOfNums x.sc), .string (strOfNums x.us), .string (strOfNums x.ho), .int .i64 x.po, .slice E1 x.ps.length e1, .slice E2 x.hs.length e2] : List Value).toArray] (by simp only [List.map_toArray, List.map_cons, List.map_nil, hx0, hx1]) (enters_of Tryz.func25 (by kernel_rfl) rfl) ((SA.out W hB).mono fun e W2 ⟨he, hb⟩ => ⟨_, he, _, rfl, hb, fun _ _ => rfl⟩)))
      | 22, ho =>
        obtain rfl := Option.some.inj ho
        exact (rel_free ho rfl (wp_pick1 (.tmp 106) (.tmp 110) _ rfl (dep_eval hD 17 (by kernel_rfl) rfl rfl) ⟨_, rfl, Below.refl _ _, fun _ _ => (show a'.eval (.tmp 110) = .bool true from (dep_eval hD 21 (by kernel_rfl) rfl rfl))⟩))
      | 23, ho =>
        obtain rfl := Option.some.inj ho
        exact (rel_free ho rfl (wp_mv1 (.tmp 111) (.inl rfl) ⟨_, rfl, Below.refl _ _, fun _ _ => (show a'.eval (.tmp 111) = .bool true from (dep_eval hD 22 (by kernel_rfl) rfl rfl))⟩))
      | 24, ho =>
        obtain rfl := Option.some.inj ho
        exact (rel_guard (b := true) ho rfl (og := _) rfl rfl (dep_eval hD 23 (by kernel_rfl) rfl rfl) (wp_fa1 38 (.tmp 10) 2 rfl g10 7 ((free_eval hF (by kernel_rfl)).trans rfl) (fun w => by kernel_rfl) ⟨_, rfl, Below.refl _ _, fun _ _ => rfl⟩))
      | 25, ho =>
        obtain rfl := Option.some.inj ho
        exact (rel_guard (b := true) ho rfl (og := _) rfl rfl (dep_eval hD 23 (by kernel_rfl) rfl rfl) (wp_ldc1 30 (.tmp 113) rfl g10 7 (.slice D3 a.ps.length d3) (dep_eval hD 24 (by kernel_rfl) rfl rfl) ((RA.out.below hB).cell 7) _ Tryz.underlying30 rfl ⟨_, rfl, Below.refl _ _, fun _ _ => rfl⟩))
      | 26, ho =>
        obtain rfl := Option.some.inj ho
        exact (rel_guard (b := true) ho rfl (og := _) rfl rfl (dep_eval hD 23 (by kernel_rfl) rfl rfl) (wp_fa1 38 (.tmp 1) 2 rfl g1 7 ((free_eval hF (by kernel_rfl)).trans rfl) (fun w => by kernel_rfl) ⟨_, rfl, Below.refl _ _, fun _ _ => rfl⟩))
      | 27, ho =>
        obtain rfl := Option.some.inj ho
        exact (rel_guard (b := true) ho rfl (og := _) rfl rfl (dep_eval hD 23 (by kernel_rfl) rfl rfl) (wp_ldc1 30 (.tmp 115) rfl g1 7 (.slice A3 a.ps.length c3) (dep_eval hD 26 (by kernel_rfl) rfl rfl) ((RP.out.below hB).cell 7) _ Tryz.underlying30 rfl ⟨_, rfl, Below.refl _ _, fun _ _ => rfl⟩))
      | 28, ho =>
        obtain rfl := Option.some.inj ho
        have hx0 : a'.eval (.tmp 116) = .slice A3 a.ps.length c3 := (dep_eval hD 27 (by kernel_rfl) rfl rfl)
        exact (rel_guard (b := true) ho rfl (og := _) rfl rfl (dep_eval hD 23 (by kernel_rfl) rfl rfl) (wp_call1 47 _ _ rfl #[.slice A3 a.ps.length c3] (by simp only [List.map_toArray, List.map_cons, List.map_nil, hx0]) (enters_of Tryz.func47 (by kernel_rfl) rfl) ((SO.out W hB).mono fun e W2 ⟨v', he, X⟩ => ⟨_, he, _, rfl, X.bw, fun _ _ => X.rdw⟩)))
      | 29, ho =>
        obtain rfl := Option.some.inj ho
        have hx1 : a'.eval (.tmp 114) = .slice D3 a.ps.length d3 := (dep_eval hD 25 (by kernel_rfl) rfl rfl)
        obtain ⟨B2, k2, hx2, r2⟩ := (show ∃ B d, a'.eval (.tmp 117) = .slice B a.ps.length d ∧ Rds W W.heap.size B (pms (sortPm a.ps)) from (dep_eval hD 28 (by kernel_rfl) rfl rfl))
        exact (rel_guard (b := true) ho rfl (og := _) rfl rfl (dep_eval hD 23 (by kernel_rfl) rfl rfl) (wp_call1 41 _ _ rfl #[.slice D3 a.ps.length d3, .slice B2 a.ps.length k2] (by simp only [List.map_toArray, List.map_cons, List.map_nil, hx1, hx2]) (enters_of Tryz.func41 (by kernel_rfl) rfl) ((SB.out W hB B2 k2 r2).mono fun e W2 ⟨he, hb⟩ => ⟨_, he, _, rfl, hb, fun _ _ => rfl⟩)))
      | 30, ho =>
        obtain rfl := Option.some.inj ho
        exact (rel_free ho rfl (wp_pick1 (.tmp 112) (.tmp 118) _ rfl (dep_eval hD 23 (by kernel_rfl) rfl rfl) ⟨_, rfl, Below.refl _ _, fun _ _ => (show a'.eval (.tmp 118) = .bool true from (dep_eval hD 29 (by kernel_rfl) rfl rfl))⟩))
      | 31, ho =>
        obtain rfl := Option.some.inj ho
        exact (rel_free ho rfl (wp_mv1 (.tmp 119) (.inl rfl) ⟨_, rfl, Below.refl _ _, fun _ _ => (show a'.eval (.tmp 119) = .bool true from (dep_eval hD 30 (by kernel_rfl) rfl rfl))⟩))
      | 32, ho =>
        obtain rfl := Option.some.inj ho
        exact (rel_guard (b := true) ho rfl (og := _) rfl rfl (dep_eval hD 31 (by kernel_rfl) rfl rfl) (wp_call1 22 _ _ rfl #[] (by simp only [List.map_toArray, List.map_nil]) (enters_of Tryz.func22 (by kernel_rfl) rfl) ((AX.out W hB).mono fun e W2 ⟨he, hb⟩ => ⟨_, he, _, rfl, hb, fun _ _ => rfl⟩)))
      | 33, ho =>
        obtain rfl := Option.some.inj ho
        exact (rel_free ho rfl (wp_pick1 (.tmp 120) (.tmp 121) _ rfl (dep_eval hD 31 (by kernel_rfl) rfl rfl) ⟨_, rfl, Below.refl _ _, fun _ _ => (show a'.eval (.tmp 121) = .bool true from (dep_eval hD 32 (by kernel_rfl) rfl rfl))⟩))
      | 34, ho =>
        obtain rfl := Option.some.inj ho
        exact (rel_free ho rfl (wp_mv1 (.tmp 122) (.inr rfl) ⟨_, rfl, Below.refl _ _, fun _ _ => (show a'.eval (.tmp 122) = .bool true from (dep_eval hD 33 (by kernel_rfl) rfl rfl))⟩))
      | j + 35, ho => exact absurd ho (by simp)
    case hend =>
      intro a' W hF hB hall
      have B9 := kd (bthen B8.out hB)
      have hv : a'.tmps.getD 2 undef = .bool true := hall 34 _ 2 rfl rfl
      have hdf : a'.defers = [] := hF.2.1.trans rfl
      clear hall hF hB
      go_wp2_with fail
      refine bodyPost_ret (results_tmp rfl _ _ _) hdf (by rw [hv]; exact FIN.out _ B9.out)
  | some s =>
    rw [hpp] at hp
    obtain ⟨hb, rfl⟩ := hp
    replace BB := kd (bthen BB.out hb)
    replace RP := kd (RP.out.below hb)
    have PX2 := kd (PX.out s hpp (SBYP.out s hpp))
    clear hb hpp PX SBYP
    have PX : True := trivial
    go_wp2_with fail
    refine (PX2.out _ BB.out).mono ?_
    rintro e w3 ⟨B0, b0, rfl, hb, hr⟩
    replace BB := kd (bthen BB.out hb)
    replace RP := kd (RP.out.below hb)
    have SX := kd (SS.out w3 B0 b0 BB.out hr)
    have k7 : w3.cell? ⟨g1, 7, none⟩ = some (.slice A3 a.ps.length c3) := RP.out.cell 7
    clear hb hr PX2 SS
    go_wp2_with fail
    refine SX.out.mono ?_
    rintro e w33 ⟨rfl, hb⟩
    replace BB := kd (bthen BB.out hb)
    replace RP := kd (RP.out.below hb)
    clear hb k7 SX
    go_wp2_with (with_reducible refine wpList_loadR rfl 38 (.tmp 1) rfl RP.out rfl Tryz.underlying38 rfl (size8 _ _ _ _ _ _ _ _) ?_)
    refine (PA.out h40' _ BB.out).mono ?_
    intro e w4 hp
    cases hpa : prAdr a with
    | none =>
      rw [hpa] at hp
      obtain ⟨hb, rfl⟩ := hp
      have B4 := kd (bthen BB.out hb)
      have ee : (((⟨#[]⟩ : ByteArray).toList) == ([] : List UInt8)) = true := by rw [toList_nil.2 rfl]; rfl
      clear hb PA PX PG NG SO
      go_wp2_with fail
      refine (AW.out _ B4.out).mono ?_
      rintro _ wz ⟨rfl, hbz⟩
      have BZ := kd (bthen B4.out hbz)
      go_wp2_with fail
      first | exact FIN.out _ BZ.out | (go_ret; exact FIN.out _ BZ.out)
    | some t =>
    rw [hpa] at hp
    obtain ⟨hb, rfl⟩ := hp
    have B4 := kd (bthen BB.out hb)
    replace RP := kd (RP.out.below hb)
    have PG2 := kd (fun (hl : t.length ≤ 1024) => PG.out t hpa hl)
    have TZ := num_size t
    clear hb PA PG hpa BB
    by_cases hl : 1024 < (strOfNums t).size
    · have dl : decide ((1024 : Int) < ((strOfNums t).size : Int)) = true := by simp; omega
      have dl' : (1024 : Int) < ((strOfNums t).size : Int) := by omega
      clear TZ hl PG2
      generalize strOfNums t = ts at *
      go_wp2_with fail
      refine (AW.out _ B4.out).mono ?_
      rintro _ wz ⟨rfl, hbz⟩
      have BZ := kd (bthen B4.out hbz)
      go_wp2_with fail
      first | exact FIN.out _ BZ.out | (go_ret; exact FIN.out _ BZ.out)
    have dl : decide ((1024 : Int) < ((strOfNums t).size : Int)) = false := by simp; omega
    have dl' : ¬ (1024 : Int) < ((strOfNums t).size : Int) := by omega
    obtain ⟨x, hx, hpg⟩ := PG2.out (by omega)
    have PR := kd hpg
    have NX := kd (NG.out x hx)
    clear TZ hl PG2 hpg hx NG
    generalize strOfNums t = ts at *
    go_wp2_with fail
    refine (PR.out _ B4.out).mono ?_
    rintro e w5 ⟨D1, D2, D3, d1, d2, d3, rfl, hb5, r1, r2, r3⟩
    have B5 := kd (bthen B4.out hb5)
    replace RP := kd (RP.out.below hb5)
    have X1 := kd r1; have X2 := kd r2; have X3 := kd r3
    clear hb5 r1 r2 r3 PR B4 dl dl'
    go_upto_region 14 with (with_reducible refine wpList_storeN rfl 38 (.tmp 10) (.tmp 80) rfl [.string ⟨#[]⟩, .string ⟨#[]⟩, .string ⟨#[]⟩, .string ⟨#[]⟩, .int .i64 0, .slice none 0 0, .slice none 0 0, .slice none 0 0] [.string (strOfNums a.ds), .string (strOfNums x.sc), .string (strOfNums x.us), .string (strOfNums x.ho), .int .i64 x.po, .slice D1 x.ps.length d1, .slice D2 x.hs.length d2, .slice D3 a.ps.length d3] rfl rfl (len8 _ _ _ _ _ _ _ _ _ _ _ _ _ _ _ _) (size8 _ _ _ _ _ _ _ _) (ad_one _ _ _ _ _) ?_; intro w6 RA S6)
    have B6 := kd (bthen B5.out S6.out)
    replace RP := kd (RP.out.below S6.out)
    replace X1 := kd ((X1.out.below S6.out).up S6.out.size); replace X2 := kd ((X2.out.below S6.out).up S6.out.size); replace X3 := kd ((X3.out.below S6.out).up S6.out.size)
    generalize w5.heap.size = g10 at *
    clear S6 B5
    have GM2 := kd (adr_mid RP.out)
    go_wp2_with (with_reducible refine wpList_load_mid rfl 32 (.tmp 84) rfl g1 1 rfl [.string (strOfNums a.u.sc), .string (strOfNums a.u.us), .string (strOfNums a.u.ho), .int .i64 a.u.po, .slice A1 a.u.ps.length c1, .slice A2 a.u.hs.length c2] _ GM2.out Tryz.underlying32 rfl (sizeU _ _ _ _ _ _) ?_)
    refine (NX.out _ B6.out).mono ?_
    rintro e w7 ⟨E1, E2, e1, e2, rfl, hb7, ua⟩
    have UA := kd ua
    have B7 := kd (bthen B6.out hb7)
    replace RP := kd (RP.out.below hb7)
    replace RA := kd (RA.out.below hb7)
    replace X1 := kd ((X1.out.below hb7).up hb7.size); replace X2 := kd ((X2.out.below hb7).up hb7.size); replace X3 := kd ((X3.out.below hb7).up hb7.size)
    clear hb7 ua NX B6 GM2
    go_upto_region 15 with (with_reducible refine wpList_storeN rfl 32 (.tmp 13) (.tmp 87) rfl [.string ⟨#[]⟩, .string ⟨#[]⟩, .string ⟨#[]⟩, .int .i64 0, .slice none 0 0, .slice none 0 0] [.string (strOfNums x.sc), .string (strOfNums x.us), .string (strOfNums x.ho), .int .i64 x.po, .slice E1 x.ps.length e1, .slice E2 x.hs.length e2] rfl rfl (lenU _ _ _ _ _ _ _ _ _ _ _ _) (sizeU _ _ _ _ _ _) (u_one _ _ _ _) ?_; intro w8 RN S8)
    have B8 := kd (bthen B7.out S8.out)
    replace RP := kd (RP.out.below S8.out)
    replace RA := kd (RA.out.below S8.out)
    replace UA := kd (UA.out.step S8.out)
    replace X1 := kd ((X1.out.below S8.out).up S8.out.size); replace X2 := kd ((X2.out.below S8.out).up S8.out.size); replace X3 := kd ((X3.out.below S8.out).up S8.out.size)
    generalize w7.heap.size = g13 at *
    clear S8 B7
    have SA := kd (fun (W : World) (hb : Below w8.heap.size w8 W) => (same_any x x D1 D2 E1 E2 _ _ _ _ d1 d2 e1 e2 W UA.out.by_ UA.out.by_ rfl rfl rfl rfl ((X1.out.below hb).up hb.size) ((X2.out.below hb).up hb.size) (UA.out.step hb).r1 (UA.out.step hb).r2 UA.out.l1 UA.out.l2 UA.out.l1 UA.out.l2).mono fun e W2 h => (show e = .returned (.bool true) ∧ Below W.heap.size W W2 from ⟨by rw [h.1, sameU_iff.2 (show x = x from rfl)], h.2⟩))
    have SB := kd (fun (W : World) (hb : Below w8.heap.size w8 W) (B2 : Option Addr) (k2 : Nat) (r2 : Rds W W.heap.size B2 (pms (sortPm a.ps))) =>
      (samepms_any D3 B2 a.ps.length d3 a.ps.length k2 _ _ W ((X3.out.below hb).up hb.size) r2 (sort_len _) (sort_len _) (by omega) (by omega) SBY.out SBY.out).mono fun e W2 h => (show e = .returned (.bool true) ∧ Below W.heap.size W W2 from ⟨by rw [h.1, samePs_self], by obtain ⟨_, y, rfl⟩ := h; exact below_drewN _ _⟩))
    replace SO := kd (fun (W : World) (hb : Below w8.heap.size w8 W) => SO.out W (bthen B8.out hb))
    have AX := kd (fun (W : World) (hb : Below w8.heap.size w8 W) => AW.out W (bthen B8.out hb))
    clear AW X1 X2 X3 UA SBY
    try dsimp only [List.append]
    refine region_all (by kernel_rfl) (by kernel_rfl) (fun j W v => BckA a x g1 g10 g13 A3 D1 D2 D3 E1 E2 c3 d1 d2 d3 e1 e2 j W v) (by kernel_rfl) (fun j v W W' hb h => BckA_mono hb h) ?hstep ?hend
    case hstep =>
      intro j o ho a' W hB hF hD
      match j, ho with
      | 0, ho =>
        obtain rfl := Option.some.inj ho
        exact (rel_free ho rfl (wp_mv1 (.tmp 12) (.inl rfl) ⟨_, rfl, Below.refl _ _, fun _ _ => (show a'.eval (.tmp 12) = .int .u8 0 from ((free_eval hF (by kernel_rfl)).trans rfl))⟩))
      | 1, ho =>
        obtain rfl := Option.some.inj ho
        have hx : a'.eval (.tmp 89) = .int .u8 0 := (dep_eval hD 0 (by kernel_rfl) rfl rfl)
        have hy : a'.eval (.const (.int .u8 0)) = .int .u8 0 := rfl
        exact (rel_free ho rfl (wp_bin1 _ _ _ _ _ rfl _ _ (.bool true) hx hy (fun w => guard_int _ _ _ _ _ _ _ _) (fun w => eql_int _ _ _ _ _) ⟨_, rfl, Below.refl _ _, fun _ _ => rfl⟩))
      | 2, ho =>
        obtain rfl := Option.some.inj ho
        exact (rel_free ho rfl (wp_mv1 (.tmp 90) (.inl rfl) ⟨_, rfl, Below.refl _ _, fun _ _ => (show a'.eval (.tmp 90) = .bool true from (dep_eval hD 1 (by kernel_rfl) rfl rfl))⟩))
      | 3, ho =>
        obtain rfl := Option.some.inj ho
        exact (rel_guard (b := true) ho rfl (og := _) rfl rfl (dep_eval hD 2 (by kernel_rfl) rfl rfl) (wp_mv1 (.tmp 11) (.inl rfl) ⟨_, rfl, Below.refl _ _, fun _ _ => (show a'.eval (.tmp 11) = .int .i64 0 from ((free_eval hF (by kernel_rfl)).trans rfl))⟩))
      | 4, ho =>
        obtain rfl := Option.some.inj ho
        have hx : a'.eval (.tmp 92) = .int .i64 0 := (dep_eval hD 3 (by kernel_rfl) rfl rfl)
        have hy : a'.eval (.const (.int .i64 0)) = .int .i64 0 := rfl
        exact (rel_guard (b := true) ho rfl (og := _) rfl rfl (dep_eval hD 2 (by kernel_rfl) rfl rfl) (wp_bin1 _ _ _ _ _ rfl _ _ (.bool true) hx hy (fun w => guard_int _ _ _ _ _ _ _ _) (fun w => eql_int _ _ _ _ _) ⟨_, rfl, Below.refl _ _, fun _ _ => rfl⟩))
      | 5, ho =>
        obtain rfl := Option.some.inj ho
        exact (rel_free ho rfl (wp_pick1 (.tmp 91) (.tmp 93) _ rfl (dep_eval hD 2 (by kernel_rfl) rfl rfl) ⟨_, rfl, Below.refl _ _, fun _ _ => (show a'.eval (.tmp 93) = .bool true from (dep_eval hD 4 (by kernel_rfl) rfl rfl))⟩))
      | 6, ho =>
        obtain rfl := Option.some.inj ho
        exact (rel_free ho rfl (wp_mv1 (.tmp 94) (.inl rfl) ⟨_, rfl, Below.refl _ _, fun _ _ => (show a'.eval (.tmp 94) = .bool true from (dep_eval hD 5 (by kernel_rfl) rfl rfl))⟩))
      | 7, ho =>
        obtain rfl := Option.some.inj ho
        exact (rel_guard (b := true) ho rfl (og := _) rfl rfl (dep_eval hD 6 (by kernel_rfl) rfl rfl) (wp_mv1 (.tmp 14) (.inl rfl) ⟨_, rfl, Below.refl _ _, fun _ _ => (show a'.eval (.tmp 14) = .int .u8 0 from ((free_eval hF (by kernel_rfl)).trans rfl))⟩))
      | 8, ho =>
        obtain rfl := Option.some.inj ho
        have hx : a'.eval (.tmp 96) = .int .u8 0 := (dep_eval hD 7 (by kernel_rfl) rfl rfl)
        have hy : a'.eval (.const (.int .u8 0)) = .int .u8 0 := rfl
        exact (rel_guard (b := true) ho rfl (og := _) rfl rfl (dep_eval hD 6 (by kernel_rfl) rfl rfl) (wp_bin1 _ _ _ _ _ rfl _ _ (.bool true) hx hy (fun w => guard_int _ _ _ _ _ _ _ _) (fun w => eql_int _ _ _ _ _) ⟨_, rfl, Below.refl _ _, fun _ _ => rfl⟩))
      | 9, ho =>
        obtain rfl := Option.some.inj ho
        exact (rel_free ho rfl (wp_pick1 (.tmp 95) (.tmp 97) _ rfl (dep_eval hD 6 (by kernel_rfl) rfl rfl) ⟨_, rfl, Below.refl _ _, fun _ _ => (show a'.eval (.tmp 97) = .bool true from (dep_eval hD 8 (by kernel_rfl) rfl rfl))⟩))
      | 10, ho =>
        obtain rfl := Option.some.inj ho
        exact (rel_free ho rfl (wp_mv1 (.tmp 98) (.inl rfl) ⟨_, rfl, Below.refl _ _, fun _ _ => (show a'.eval (.tmp 98) = .bool true from (dep_eval hD 9 (by kernel_rfl) rfl rfl))⟩))
      | 11, ho =>
        obtain rfl := Option.some.inj ho
        exact (rel_guard (b := true) ho rfl (og := _) rfl rfl (dep_eval hD 10 (by kernel_rfl) rfl rfl) (wp_fa1 38 (.tmp 10) 0 rfl g10 0 ((free_eval hF (by kernel_rfl)).trans rfl) (fun w => by kernel_rfl) ⟨_, rfl, Below.refl _ _, fun _ _ => rfl⟩))
      | 12, ho =>
        obtain rfl := Option.some.inj ho
        exact (rel_guard (b := true) ho rfl (og := _) rfl rfl (dep_eval hD 10 (by kernel_rfl) rfl rfl) (wp_ldc1 9 (.tmp 100) rfl g10 0 (.string (strOfNums a.ds)) (dep_eval hD 11 (by kernel_rfl) rfl rfl) ((RA.out.below hB).cell 0) _ Tryz.underlying9 rfl ⟨_, rfl, Below.refl _ _, fun _ _ => rfl⟩))
      | 13, ho =>
        obtain rfl := Option.some.inj ho
        exact (rel_guard (b := true) ho rfl (og := _) rfl rfl (dep_eval hD 10 (by kernel_rfl) rfl rfl) (wp_fa1 38 (.tmp 1) 0 rfl g1 0 ((free_eval hF (by kernel_rfl)).trans rfl) (fun w => by kernel_rfl) ⟨_, rfl, Below.refl _ _, fun _ _ => rfl⟩))
      | 14, ho =>
        obtain rfl := Option.some.inj ho
        exact (rel_guard (b := true) ho rfl (og := _) rfl rfl (dep_eval hD 10 (by kernel_rfl) rfl rfl) (wp_ldc1 9 (.tmp 102) rfl g1 0 (.string (strOfNums a.ds)) (dep_eval hD 13 (by kernel_rfl) rfl rfl) ((RP.out.below hB).cell 0) _ Tryz.underlying9 rfl ⟨_, rfl, Below.refl _ _, fun _ _ => rfl⟩))
      | 15, ho =>
        obtain rfl := Option.some.inj ho
        have hx : a'.eval (.tmp 101) = .string (strOfNums a.ds) := (dep_eval hD 12 (by kernel_rfl) rfl rfl)
        have hy : a'.eval (.tmp 103) = .string (strOfNums a.ds) := (dep_eval hD 14 (by kernel_rfl) rfl rfl)
        exact (rel_guard (b := true) ho rfl (og := _) rfl rfl (dep_eval hD 10 (by kernel_rfl) rfl rfl) (wp_bin1 _ _ _ _ _ rfl _ _ (.bool true) hx hy (fun w => guard_str _ _ _ _ _ _ _) (fun w => eql_str _ _ _ _) ⟨_, rfl, Below.refl _ _, fun _ _ => rfl⟩))
      | 16, ho =>
        obtain rfl := Option.some.inj ho
        exact (rel_free ho rfl (wp_pick1 (.tmp 99) (.tmp 104) _ rfl (dep_eval hD 10 (by kernel_rfl) rfl rfl) ⟨_, rfl, Below.refl _ _, fun _ _ => (show a'.eval (.tmp 104) = .bool true from (dep_eval hD 15 (by kernel_rfl) rfl rfl))⟩))
      | 17, ho =>
        obtain rfl := Option.some.inj ho
        exact (rel_free ho rfl (wp_mv1 (.tmp 105) (.inl rfl) ⟨_, rfl, Below.refl _ _, fun _ _ => (show a'.eval (.tmp 105) = .bool true from (dep_eval hD 16 (by kernel_rfl) rfl rfl))⟩))
      | 18, ho =>
        obtain rfl := Option.some.inj ho
        exact (rel_guard (b := true) ho rfl (og := _) rfl rfl (dep_eval hD 17 (by kernel_rfl) rfl rfl) (wp_fa1 38 (.tmp 10) 1 rfl g10 1 ((free_eval hF (by kernel_rfl)).trans rfl) (fun w => by kernel_rfl) ⟨_, rfl, Below.refl _ _, fun _ _ => rfl⟩))
      | 19, ho =>
        obtain rfl := Option.some.inj ho
        exact (rel_guard (b := true) ho rfl (og := _) rfl rfl (dep_eval hD 17 (by kernel_rfl) rfl rfl) (wp_load1 32 (.tmp 107) rfl g10 1 [.string (strOfNums x.sc), .string (strOfNums x.us), .string (strOfNums x.ho), .int .i64 x.po, .slice D1 x.ps.length d1, .slice D2 x.hs.length d2] _ (dep_eval hD 18 (by kernel_rfl) rfl rfl) (adr_mid (RA.out.below hB)) Tryz.underlying32 rfl (sizeU _ _ _ _ _ _) ⟨_, rfl, Below.refl _ _, fun _ _ => rfl⟩))
      | 20, ho =>
        obtain rfl := Option.some.inj ho
        exact (rel_guard (b := true) ho rfl (og := _) rfl rfl (dep_eval hD 17 (by kernel_rfl) rfl rfl) (wp_load1 32 (.tmp 13) rfl g13 0 [.string (strOfNums x.sc), .string (strOfNums x.us), .string (strOfNums x.ho), .int .i64 x.po, .slice E1 x.ps.length e1, .slice E2 x.hs.length e2] _ ((free_eval hF (by kernel_rfl)).trans rfl) ((RN.out.below hB).range) Tryz.underlying32 rfl (sizeU _ _ _ _ _ _) ⟨_, rfl, Below.refl _ _, fun _ _ => rfl⟩))
      | 21, ho =>
        obtain rfl := Option.some.inj ho
        have hx0 : a'.eval (.tmp 108) = .agg ([.string (strOfNums x.sc), .string (strOfNums x.us), .string (strOfNums x.ho), .int .i64 x.po, .slice D1 x.ps.length d1, .slice D2 x.hs.length d2] : List Value).toArray := (dep_eval hD 19 (by kernel_rfl) rfl rfl)
        have hx1 : a'.eval (.tmp 109) = .agg ([.string (strOfNums x.sc), .string (strOfNums x.us), .string (strOfNums x.ho), .int .i64 x.po, .slice E1 x.ps.length e1, .slice E2 x.hs.length e2] : List Value).toArray := (dep_eval hD 20 (by kernel_rfl) rfl rfl)
        exact (rel_guard (b := true) ho rfl (og := _) rfl rfl (dep_eval hD 17 (by kernel_rfl) rfl rfl) (wp_call1 25 _ _ rfl #[.agg ([.string (strOfNums x.sc), .string (strOfNums x.us), .string (strOfNums x.ho), .int .i64 x.po, .slice D1 x.ps.length d1, .slice D2 x.hs.length d2] : List Value).toArray, .agg ([.string (strOfNums x.sc), .string (strOfNums x.us), .string (strOfNums x.ho), .int .i64 x.po, .slice E1 x.ps.length e1, .slice E2 x.hs.length e2] : List Value).toArray] (by simp only [List.map_toArray, List.map_cons, List.map_nil, hx0, hx1]) (enters_of Tryz.func25 (by kernel_rfl) rfl) ((SA.out W hB).mono fun e W2 ⟨he, hb⟩ => ⟨_, he, _, rfl, hb, fun _ _ => rfl⟩)))
      | 22, ho =>
        obtain rfl := Option.some.inj ho
        exact (rel_free ho rfl (wp_pick1 (.tmp 106) (.tmp 110) _ rfl (dep_eval hD 17 (by kernel_rfl) rfl rfl) ⟨_, rfl, Below.refl _ _, fun _ _ => (show a'.eval (.tmp 110) = .bool true from (dep_eval hD 21 (by kernel_rfl) rfl rfl))⟩))
      | 23, ho =>
        obtain rfl := Option.some.inj ho
        exact (rel_free ho rfl (wp_mv1 (.tmp 111) (.inl rfl) ⟨_, rfl, Below.refl _ _, fun _ _ => (show a'.eval (.tmp 111) = .bool true from (dep_eval hD 22 (by kernel_rfl) rfl rfl))⟩))
      | 24, ho =>
        obtain rfl := Option.some.inj ho
        exact (rel_guard (b := true) ho rfl (og := _) rfl rfl (dep_eval hD 23 (by kernel_rfl) rfl rfl) (wp_fa1 38 (.tmp 10) 2 rfl g10 7 ((free_eval hF (by kernel_rfl)).trans rfl) (fun w => by kernel_rfl) ⟨_, rfl, Below.refl _ _, fun _ _ => rfl⟩))
      | 25, ho =>
        obtain rfl := Option.some.inj ho
        exact (rel_guard (b := true) ho rfl (og := _) rfl rfl (dep_eval hD 23 (by kernel_rfl) rfl rfl) (wp_ldc1 30 (.tmp 113) rfl g10 7 (.slice D3 a.ps.length d3) (dep_eval hD 24 (by kernel_rfl) rfl rfl) ((RA.out.below hB).cell 7) _ Tryz.underlying30 rfl ⟨_, rfl, Below.refl _ _, fun _ _ => rfl⟩))
      | 26, ho =>
        obtain rfl := Option.some.inj ho
        exact (rel_guard (b := true) ho rfl (og := _) rfl rfl (dep_eval hD 23 (by kernel_rfl) rfl rfl) (wp_fa1 38 (.tmp 1) 2 rfl g1 7 ((free_eval hF (by kernel_rfl)).trans rfl) (fun w => by kernel_rfl) ⟨_, rfl, Below.refl _ _, fun _ _ => rfl⟩))
      | 27, ho =>
        obtain rfl := Option.some.inj ho
        exact (rel_guard (b := true) ho rfl (og := _) rfl rfl (dep_eval hD 23 (by kernel_rfl) rfl rfl) (wp_ldc1 30 (.tmp 115) rfl g1 7 (.slice A3 a.ps.length c3) (dep_eval hD 26 (by kernel_rfl) rfl rfl) ((RP.out.below hB).cell 7) _ Tryz.underlying30 rfl ⟨_, rfl, Below.refl _ _, fun _ _ => rfl⟩))
      | 28, ho =>
        obtain rfl := Option.some.inj ho
        have hx0 : a'.eval (.tmp 116) = .slice A3 a.ps.length c3 := (dep_eval hD 27 (by kernel_rfl) rfl rfl)
        exact (rel_guard (b := true) ho rfl (og := _) rfl rfl (dep_eval hD 23 (by kernel_rfl) rfl rfl) (wp_call1 47 _ _ rfl #[.slice A3 a.ps.length c3] (by simp only [List.map_toArray, List.map_cons, List.map_nil, hx0]) (enters_of Tryz.func47 (by kernel_rfl) rfl) ((SO.out W hB).mono fun e W2 ⟨v', he, X⟩ => ⟨_, he, _, rfl, X.bw, fun _ _ => X.rdw⟩)))
      | 29, ho =>
        obtain rfl := Option.some.inj ho
        have hx1 : a'.eval (.tmp 114) = .slice D3 a.ps.length d3 := (dep_eval hD 25 (by kernel_rfl) rfl rfl)
        obtain ⟨B2, k2, hx2, r2⟩ := (show ∃ B d, a'.eval (.tmp 117) = .slice B a.ps.length d ∧ Rds W W.heap.size B (pms (sortPm a.ps)) from (dep_eval hD 28 (by kernel_rfl) rfl rfl))
        exact (rel_guard (b := true) ho rfl (og := _) rfl rfl (dep_eval hD 23 (by kernel_rfl) rfl rfl) (wp_call1 41 _ _ rfl #[.slice D3 a.ps.length d3, .slice B2 a.ps.length k2] (by simp only [List.map_toArray, List.map_cons, List.map_nil, hx1, hx2]) (enters_of Tryz.func41 (by kernel_rfl) rfl) ((SB.out W hB B2 k2 r2).mono fun e W2 ⟨he, hb⟩ => ⟨_, he, _, rfl, hb, fun _ _ => rfl⟩)))
      | 30, ho =>
        obtain rfl := Option.some.inj ho
        exact (rel_free ho rfl (wp_pick1 (.tmp 112) (.tmp 118) _ rfl (dep_eval hD 23 (by kernel_rfl) rfl rfl) ⟨_, rfl, Below.refl _ _, fun _ _ => (show a'.eval (.tmp 118) = .bool true from (dep_eval hD 29 (by kernel_rfl) rfl rfl))⟩))
      | 31, ho =>
        obtain rfl := Option.some.inj ho
        exact (rel_free ho rfl (wp_mv1 (.tmp 119) (.inl rfl) ⟨_, rfl, Below.refl _ _, fun _ _ => (show a'.eval (.tmp 119) = .bool true from (dep_eval hD 30 (by kernel_rfl) rfl rfl))⟩))
      | 32, ho =>
        obtain rfl := Option.some.inj ho
        exact (rel_guard (b := true) ho rfl (og := _) rfl rfl (dep_eval hD 31 (by kernel_rfl) rfl rfl) (wp_call1 22 _ _ rfl #[] (by simp only [List.map_toArray, List.map_nil]) (enters_of Tryz.func22 (by kernel_rfl) rfl) ((AX.out W hB).mono fun e W2 ⟨he, hb⟩ => ⟨_, he, _, rfl, hb, fun _ _ => rfl⟩)))
      | 33, ho =>
        obtain rfl := Option.some.inj ho
        exact (rel_free ho rfl (wp_pick1 (.tmp 120) (.tmp 121) _ rfl (dep_eval hD 31 (by kernel_rfl) rfl rfl) ⟨_, rfl, Below.refl _ _, fun _ _ => (show a'.eval (.tmp 121) = .bool true from (dep_eval hD 32 (by kernel_rfl) rfl rfl))⟩))
      | 34, ho =>
        obtain rfl := Option.some.inj ho
        exact (rel_free ho rfl (wp_mv1 (.tmp 122) (.inr rfl) ⟨_, rfl, Below.refl _ _, fun _ _ => (show a'.eval (.tmp 122) = .bool true from (dep_eval hD 33 (by kernel_rfl) rfl rfl))⟩))
      | j + 35, ho => exact absurd ho (by simp)
    case hend =>
      intro a' W hF hB hall
      have B9 := kd (bthen B8.out hB)
      have hv : a'.tmps.getD 2 undef = .bool true := hall 34 _ 2 rfl rfl
      have hdf : a'.defers = [] := hF.2.1.trans rfl
      clear hall hF hB
      go_wp2_with fail
      refine bodyPost_ret (results_tmp rfl _ _ _) hdf (by rw [hv]; exact FIN.out _ B9.out)
end Go.Proofs.YthfonniieaiocaaGreatDoor
