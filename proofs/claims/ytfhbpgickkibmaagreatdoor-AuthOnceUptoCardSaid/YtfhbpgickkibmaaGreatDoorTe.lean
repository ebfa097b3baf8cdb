/- The law AuthOnce. The law AuthOnce. -/
import Derived.Test.YtfhbpgickkibmaaGreatDoorTc
import Derived.Test.YtfhbpgickkibmaaGreatDoorRf
namespace Go.Proofs.YtfhbpgickkibmaaGreatDoor
open Go.RowKit

def REs : ByteArray := ⟨#[114, 101, 97, 108, 109]⟩
def KEs : ByteArray := ⟨#[107, 101, 121]⟩
def Us : ByteArray := ⟨#[117]⟩
def Cs : ByteArray := ⟨#[99]⟩
def Ps : ByteArray := ⟨#[112]⟩
/-- A row of numbers of 32 bits. -/
def Ws (w : World) (B : Nat) (A : Option Addr) (xs : List Int) : Prop := 0 < xs.length → ∃ ad, A = some ad ∧ ad.block < B ∧ ∀ (j : Nat) x, xs[j]? = some x → w.cell? (ad.add j) = some (.int .u32 x)
theorem Ws.below {w w' : World} {B : Nat} {A : Option Addr} {xs : List Int} (h : Ws w B A xs) (hb : Below B w w') : Ws w' B A xs := fun hn => by
  obtain ⟨ad, e, h1, h2⟩ := h hn
  exact ⟨ad, e, h1, fun j x hx => (hb.cell (by rw [add_block]; exact h1)).trans (h2 j x hx)⟩
theorem valid_one {re ke v : ByteArray} {life iss a k : Int} (h1 : clean (byteL re) = true) (h2 : clean (byteL ke) = true) (h3 : 1 ≤ life) (h4 : life ≤ 1099511627776) (h5 : 0 ≤ iss) (h6 : iss ≤ 2147483647) (h7 : 0 ≤ a) (h8 : a ≤ 1099511627776) (h9 : 0 ≤ k) (h10 : k ≤ 4294967295) :
    validG (byteL re) (byteL ke) life iss [⟨v, a, k⟩] = true := by
  unfold validG
  rw [h1, h2]
  simp [ncOk, h3, h4, h5, h6, h7, h8, h9, h10]
theorem badV_one {re ke v : ByteArray} {life iss a k now : Int} (h : validG (byteL re) (byteL ke) life iss [⟨v, a, k⟩] = true) (h1 : 0 ≤ now) (h2 : now ≤ 1099511627776) : badV re ke life iss 0 now [⟨v, a, k⟩] = false := by
  unfold badV
  rw [h]
  simp
  omega
theorem first_one {re ke : ByteArray} {life : Int} (h1 : clean (byteL re) = true) (h2 : clean (byteL ke) = true) (h3 : 1 ≤ life) (h4 : life ≤ 1099511627776) (s1 : re.size ≤ 200) (s2 : ke.size ≤ 200) : firL re ke life = ⟨re, ke, life, 1, [⟨txtI ke 0 1000, 1000, 0⟩], re, txtI ke 0 1000, true, 0⟩ := by
  rw [firL_ok (by omega), issL_ok]
  · rfl
  · unfold badI validG
    rw [h1, h2]
    simp [h3, h4]
theorem findB_one {v : ByteArray} {a k : Int} : findB [⟨v, a, k⟩] v = some 0 := findBk_yes rfl (by unfold hitN; simp)
/-- Verify, where the guard keeps one nonce and the request answers it. -/
theorem ver_one {re ke v : ByteArray} {U cs pw : List Int} {life iss a k0 k now : Int} {g : Bool} {bs bs2 : List Int} {us : List (ByteArray × ByteArray)} {j : Nat} {s : ByteArray} (h : XOk U (byteL re) (byteL v) cs k)
    (hb : badV re ke life iss 0 now [⟨v, a, k0⟩] = false) (hf : findK us (strOfNums U) = some j) (hs : (us.getD j (⟨#[]⟩, ⟨#[]⟩)).2 = s) (hr : respL (byteL s) (byteL v) k cs g (byteL BOBs) (byteL INVs) bs2 = XP U (byteL re) (byteL v) cs pw k g bs) :
    verL re ke life iss 0 now [⟨v, a, k0⟩] us (TwoH (XC U (byteL re) (byteL v) cs pw k g bs)) INVs BOBs bs2 =
      if life < now - a then ⟨re, ke, life, iss, [⟨v, a, k0⟩], ⟨#[]⟩, 13⟩ else if k ≤ k0 then ⟨re, ke, life, iss, [⟨v, a, k0⟩], ⟨#[]⟩, 7⟩ else ⟨re, ke, life, iss, [⟨v, a, k⟩], strOfNums U, 0⟩ := by
  have hP := h.pres pw g bs
  have hW : wrongV us BOBs INVs bs2 (XC U (byteL re) (byteL v) cs pw k g bs) = false := by rw [h.wrong pw g bs bs2 hf hs, hr]; simp
  have hn : findB [⟨v, a, k0⟩] (strOfNums (XC U (byteL re) (byteL v) cs pw k g bs).n) = some 0 := by
    rw [show strOfNums (XC U (byteL re) (byteL v) cs pw k g bs).n = v from str_byteL v]; exact findB_one
  split
  · rename_i h1
    exact verL_nonce hb hP hW (nonce_old hn rfl h1) (by decide)
  · rename_i h1
    split
    · rename_i h2
      exact verL_nonce hb hP hW (nonce_used hn rfl h1 h2) (by decide)
    · rename_i h2
      exact verL_yes hb hP hW (nonce_new hn rfl h1 h2)
end Go.Proofs.YtfhbpgickkibmaaGreatDoor
namespace Go.Proofs.YtfhbpgickkibmaaGreatDoor
open Go.RowKit

theorem zeroMS : (Tryz.prog.info? 41).bind (·.zero) = some (.agg Z6.toArray) := by kernel_rfl
def OnceI (w : World) (b3 b4 b5 : Nat) (TX SE : ByteArray) (last : Int) (wr : World) : Prop := Below w.heap.size w wr ∧ Row wr b4 36 [.string REs, .string TX, .string ⟨#[]⟩, .bool true, .bool false] ∧ Row wr b5 54 [.string Us, .string SE] ∧ ∃ A c, Row wr b3 49 [.string REs, .string KEs, .int .i64 100000, .int .i64 1, .slice A 1 c] ∧ Rds wr wr.heap.size A (ncs [⟨TX, 1000, last⟩])
set_option maxRecDepth 100000 in
set_option maxHeartbeats 4000000 in
theorem once_any (C : Option Addr) (cn cc : Nat) (xs : List Int) (w : World) (hC : Ws w w.heap.size C xs) (hcn : xs.length = cn) (hcN : cn ≤ 1048576) (hx : ∀ x ∈ xs, 0 ≤ x ∧ x ≤ 4294967295) (hG : GM w) (hK : KC w) (hP : PT w) (hS : SC w) :
    Calls Tryz.prog 9 #[.slice C cn cc] w fun e w' => e = .returned (.bool true) ∧ Below w.heap.size w w' := by
  have HG := Lib.hid hG; have HK := Lib.hid hK; have HP := Lib.hid hP; have HS := Lib.hid hS; have HC := Lib.hid hC; have HCN := Lib.hid hcn; have HX := Lib.hid hx
  clear hG hK hP hS hC hcn hx
  have FI := Lib.hid (first_any REs KEs 100000 w (by decide) (by decide) HK.out HP.out)
  rw [first_one (by decide) (by decide) (by decide) (by decide) (by decide) (by decide)] at FI
  have TXB := Lib.hid (show By (hashL [byteL KEs, decL 0, decL 1000]) from hashL_by _)
  have TXC := Lib.hid (show clean (byteL (txtI KEs 0 1000)) = true by unfold txtI; rw [byteL_str (hashL_by _)]; exact clean_hash _)
  have TXL := Lib.hid (show (txtI KEs 0 1000).size = 64 by unfold txtI; rw [num_size]; exact hashL_len _)
  generalize txtI KEs 0 1000 = TX at *
  go_enter Tryz.func9, Tryz.ntmps9
  go_wp2_with fail
  refine FI.out.mono ?_
  rintro e X ⟨hbx, A1, c1, rfl, _, hA1⟩
  have BX := Lib.hid hbx
  have HA1 := Lib.hid hA1
  clear hbx hA1 FI
  rw [show ((0 : Int) == 0) = true from rfl]
  have N5 := Lib.hid (show Row ((X.alloc (.cells #[.string ⟨#[]⟩, .string ⟨#[]⟩, .int .i64 0, .int .i64 0, .slice none 0 0] 49)).alloc (.cells #[.string ⟨#[]⟩, .string ⟨#[]⟩, .string ⟨#[]⟩, .bool false, .bool false] 36)) X.heap.size 49 [.string ⟨#[]⟩, .string ⟨#[]⟩, .int .i64 0, .int .i64 0, .slice none 0 0] from (Row.new X 49 [.string ⟨#[]⟩, .string ⟨#[]⟩, .int .i64 0, .int .i64 0, .slice none 0 0]).alloc _)
  have N6 := Lib.hid (show Row ((X.alloc (.cells #[.string ⟨#[]⟩, .string ⟨#[]⟩, .int .i64 0, .int .i64 0, .slice none 0 0] 49)).alloc (.cells #[.string ⟨#[]⟩, .string ⟨#[]⟩, .string ⟨#[]⟩, .bool false, .bool false] 36)) (X.heap.size + 1) 36 [.string ⟨#[]⟩, .string ⟨#[]⟩, .string ⟨#[]⟩, .bool false, .bool false] by
    have h := Row.new (X.alloc (.cells #[.string ⟨#[]⟩, .string ⟨#[]⟩, .int .i64 0, .int .i64 0, .slice none 0 0] 49)) 36 [.string ⟨#[]⟩, .string ⟨#[]⟩, .string ⟨#[]⟩, .bool false, .bool false]
    rwa [World.size_alloc] at h)
  have BA := Lib.hid (show Below X.heap.size X ((X.alloc (.cells #[.string ⟨#[]⟩, .string ⟨#[]⟩, .int .i64 0, .int .i64 0, .slice none 0 0] 49)).alloc (.cells #[.string ⟨#[]⟩, .string ⟨#[]⟩, .string ⟨#[]⟩, .bool false, .bool false] 36)) from ((Below.refl _ _).alloc (Nat.le_refl _) _).alloc (by simp) _)
  go_wp2_with (with_reducible refine wpList_storeR rfl 49 (.tmp 3) (.tmp 17) rfl N5.out [.string REs, .string KEs, .int .i64 100000, .int .i64 1, .slice A1 1 c1] rfl rfl (lenG _ _ _ _ _ _ _ _ _ _) (sizeG _ _ _ _ _) (g_one _ _ _ _ _ _ _) BA.out (Nat.le_refl _) ?_)
  intro Ya R5a B5 H5
  have N6' := Lib.hid (show Row Ya (X.heap.size + 1) 36 [.string ⟨#[]⟩, .string ⟨#[]⟩, .string ⟨#[]⟩, .bool false, .bool false] from (H5.out.2 _ (by omega)).trans N6.out)
  go_wp2_with (with_reducible refine wpList_storeR rfl 36 (.tmp 4) (.tmp 18) rfl N6'.out [.string REs, .string TX, .string ⟨#[]⟩, .bool true, .bool false] rfl rfl (lenG _ _ _ _ _ _ _ _ _ _) (sizeCh _ _ _ _ _) (ch_one _ _ _ _ _) B5.out (by omega) ?_)
  intro Y C4 B6 H6
  have G3 := Lib.hid (show Row Y X.heap.size 49 [.string REs, .string KEs, .int .i64 100000, .int .i64 1, .slice A1 1 c1] from (H6.out.2 _ (by omega)).trans R5a.out)
  clear N5 N6 N6' BA B5 H5 R5a H6
  have BY := Lib.hid (bthen BX.out B6.out)
  have HAy := Lib.hid ((HA1.out.below B6.out).up B6.out.size)
  have LW := Lib.hid BX.out.size
  clear BX HA1 B6
  go_wp2_with fail
  refine (secret_any Us REs Ps _ (by decide) (HK.out.below BY.out)).mono ?_
  rintro e X2 ⟨rfl, hb2⟩
  have HSE := Lib.hid (show By (hashL [byteL Us, byteL REs, byteL Ps]) from hashL_by _)
  obtain ⟨SE, hSE⟩ : ∃ SE, SE = strOfNums (hashL [byteL Us, byteL REs, byteL Ps]) := ⟨_, rfl⟩
  rw [← hSE]
  have SEQ := Lib.hid hSE
  clear hSE
  have G3' := Lib.hid (G3.out.below hb2); have C4' := Lib.hid (C4.out.below hb2); have BY' := Lib.hid (bthen BY.out hb2); have HA' := Lib.hid ((HAy.out.below hb2).up hb2.size)
  have L5 := Lib.hid (show X.heap.size + 1 < X2.heap.size from Nat.lt_of_lt_of_le C4.out.lt hb2.size)
  clear hb2 G3 C4 BY HAy
  have INI := Lib.hid (show OnceI w X.heap.size (X.heap.size + 1) X2.heap.size TX SE 0 (X2.alloc (.cells #[.string ⟨#[117]⟩, .string SE] 54)) from
    ⟨BY'.out.alloc BY'.out.size _, C4'.out.alloc _, Row.new X2 54 [.string Us, .string SE], A1, c1, G3'.out.alloc _, (HA'.out.below ((Below.refl _ _).alloc (Nat.le_refl _) _)).up (by simp)⟩)
  clear G3' C4' BY' HA'
  go_wp2_with fail
  generalize X2.alloc (.cells #[.string ⟨#[117]⟩, .string SE] 54) = W0 at *
  go_loopw [7, 8] (fun v7 v8 wr => ∃ (last : Int) (i : Nat), v7 = .int .i64 last ∧ v8 = .int .i64 i ∧ i ≤ 100 ∧ i ≤ cn ∧ 0 ≤ last ∧ last ≤ 4294967295 ∧ Hid (OnceI w X.heap.size (X.heap.size + 1) X2.heap.size TX SE last wr)) (fun _ v8 _ => 100 - (intOf v8).toNat)
  case atStart => exact ⟨0, 0, rfl, rfl, by omega, by omega, by omega, by omega, INI⟩
  case round =>
    obtain ⟨last, i, rfl, rfl, hi, hic, hl0, hl1, HI⟩ := hrel
    clear INI
    by_cases hlt : i < cn
    · have hd : decide (i < cn) = true := by simp [hlt]
      have hd2 : decide ((i : Int) < (cn : Int)) = true := by simp; omega
      by_cases hlt2 : i < 100
      · have hd3 : decide (i < 100) = true := by simp [hlt2]
        have hd4 : decide ((i : Int) < 100) = true := by simp; omega
        obtain ⟨x, hxx⟩ : ∃ x, xs[i]? = some x := ⟨_, List.getElem?_eq_getElem (by rw [HCN.out]; exact hlt)⟩
        obtain ⟨x0, x1⟩ := HX.out x (List.mem_of_getElem? hxx)
        obtain ⟨BW, RC, RU, A, c, RG, HA⟩ := HI.out
        obtain ⟨ad, rfl, had, hcs⟩ := HC.out (by rw [HCN.out]; omega)
        have cx : wr.cell? (ad.add i) = some (.int .u32 x) := (BW.cell (by rw [add_block]; exact had)).trans (hcs i x hxx)
        have i0 : (0 : Int) ≤ (i : Int) := by omega
        have i1 : (i : Int) < (cn : Int) := by omega
        have HBW := Lib.hid BW; have HRC := Lib.hid RC; have HRU := Lib.hid RU; have HRG := Lib.hid RG; have HHA := Lib.hid HA
        clear BW RC RU RG HA hcs hxx HI
        go_upto_region 10 with fail
        have XOK := Lib.hid (show By (byteL Us) ∧ By (byteL REs) ∧ By (byteL TX) ∧ By (byteL Cs) from ⟨byteL_by _, byteL_by _, byteL_by _, byteL_by _⟩)
        obtain ⟨V, hV⟩ : ∃ V, V = ansL 0 true (XC (byteL Us) (byteL REs) (byteL TX) (byteL Cs) (byteL Ps) x false []) := ⟨_, rfl⟩
        have HV := Lib.hid hV
        clear hV
        refine region_put (by kernel_rfl) (by kernel_rfl) (fun j W v => ((([.eq (.agg #[.string REs, .string TX, .string ⟨#[]⟩, .bool true, .bool false]), .eq (.int .i64 x), .eq (.agg #[.string Us, .string ⟨#[]⟩, .string ⟨#[]⟩, .string ⟨#[]⟩, .string ⟨#[]⟩, .string Cs, .string ⟨#[]⟩, .int .i64 x, .bool false]), .inv, .ans, .ans, .msg, .err, .any, .any, .err] : List Ask)).getD j .any).holds V [] none 0 0 W v) 8 9 6 10 46 41 41 Z6 (by kernel_rfl) (by kernel_rfl) _ _ _ rfl rfl ?halloc rfl rfl rfl rfl rfl (by kernel_rfl) (by kernel_rfl) (by decide) (by decide) size6 (fun W v h => Ask.cells h) (fun j v W W' hb h => Ask.below hb h) (fun j v W b us _ hr _ h => Ask.setRow hr h) ?hstep ?hend
        case halloc => exact fun W ev => exec_alloc rfl zeroMS
        case hstep =>
          intro j o h1 h2 ho a' W hB hF hD
          match j, ho with
          | 0, ho =>
            obtain rfl := Option.some.inj ho
            exact wp_load1 36 (.tmp 4) rfl (X.heap.size + 1) 0 [.string REs, .string TX, .string ⟨#[]⟩, .bool true, .bool false] _ ((free_eval hF (by kernel_rfl)).trans rfl) (HRC.out.below hB).range Tryz.underlying36 rfl sizeCh5 ⟨_, rfl, Below.refl _ _, rfl⟩
          | 1, ho =>
            obtain rfl := Option.some.inj ho
            exact wp_mv1 (.tmp 9) (.inl rfl) ⟨_, rfl, Below.refl _ _, (free_eval hF (by kernel_rfl)).trans rfl⟩
          | 2, ho =>
            obtain rfl := Option.some.inj ho
            have hx1 := dep_eval hD 1 (by kernel_rfl) rfl rfl
            replace hx1 : a'.eval (.tmp 42) = .int .i64 x := hx1
            exact wp_build1 23 _ rfl [(0, .string ⟨#[117]⟩), (5, .string ⟨#[99]⟩), (7, .int .i64 x)] (by simp only [List.map_toArray, List.map_cons, List.map_nil, hx1]; rfl) #[.string Us, .string ⟨#[]⟩, .string ⟨#[]⟩, .string ⟨#[]⟩, .string ⟨#[]⟩, .string Cs, .string ⟨#[]⟩, .int .i64 x, .bool false] (by kernel_rfl) ⟨_, rfl, Below.refl _ _, rfl⟩
          | 3, ho =>
            obtain rfl := Option.some.inj ho
            refine wp_call1 33 _ _ rfl #[.slice none 0 0] (by simp only [List.map_toArray, List.map_cons, List.map_nil]; rfl) (enters_of Tryz.func33 (by kernel_rfl) rfl) ((invite_any none 0 0 W).mono ?_)
            rintro e W2 ⟨hb, b, rfl, hr⟩
            exact ⟨_, rfl, _, rfl, hb, b, rfl, hr⟩
          | 4, ho =>
            obtain rfl := Option.some.inj ho
            have hx0 := dep_eval hD 0 (by kernel_rfl) rfl rfl
            have hx2 := dep_eval hD 2 (by kernel_rfl) rfl rfl
            have hx3 := dep_eval hD 3 (by kernel_rfl) rfl rfl
            replace hx0 : a'.eval (.tmp 41) = .agg #[.string REs, .string TX, .string ⟨#[]⟩, .bool true, .bool false] := hx0
            replace hx2 : a'.eval (.tmp 43) = .agg #[.string Us, .string ⟨#[]⟩, .string ⟨#[]⟩, .string ⟨#[]⟩, .string ⟨#[]⟩, .string Cs, .string ⟨#[]⟩, .int .i64 x, .bool false] := hx2
            refine wp_call1 22 _ _ rfl #[.agg #[.string REs, .string TX, .string ⟨#[]⟩, .bool true, .bool false], .agg #[.string Us, .string ⟨#[]⟩, .string ⟨#[]⟩, .string ⟨#[]⟩, .string ⟨#[]⟩, .string Cs, .string ⟨#[]⟩, .int .i64 x, .bool false], .string ⟨#[112]⟩, a'.eval (.tmp 44)] (by simp only [List.map_toArray, List.map_cons, List.map_nil, hx0, hx2]; rfl) (enters_of Tryz.func22 (by kernel_rfl) rfl) ((answer_inv REs TX Us Cs Ps false x none 0 0 [] W _ hx3 (fun y hy => by cases hy) rfl (by decide) (fun h => absurd h (by simp)) (fun _ => ⟨rfl, rfl⟩) (by decide) (by rw [TXL.out]; decide) (by decide) (by decide) (by decide) (HK.out.below (bthen HBW.out hB)) (HS.out.below (bthen HBW.out hB))).mono ?_)
            rintro e W2 ⟨u, rfl, hb, hu⟩
            rw [← HV.out] at hu
            exact ⟨_, rfl, _, rfl, hb, hu⟩
          | 5, ho =>
            obtain rfl := Option.some.inj ho
            exact wp_mv1 (.tmp 45) (.inl rfl) ⟨_, rfl, Below.refl _ _, dep_eval hD 4 (by kernel_rfl) rfl rfl⟩
          | 6, ho =>
            obtain rfl := Option.some.inj ho
            obtain ⟨m, hm, h3⟩ := dep_eval hD 5 (by kernel_rfl) rfl rfl
            exact wp_ext1 (.tmp 40) 0 rfl _ _ hm rfl ⟨_, rfl, Below.refl _ _, h3⟩
          | 7, ho =>
            obtain rfl := Option.some.inj ho
            obtain ⟨m, hm, h3⟩ := dep_eval hD 5 (by kernel_rfl) rfl rfl
            exact wp_ext1 (.tmp 40) 1 rfl _ _ hm rfl ⟨_, rfl, Below.refl _ _, rfl⟩
          | 8, ho => exact absurd rfl h1
          | 9, ho => exact absurd rfl h2
          | 10, ho =>
            obtain rfl := Option.some.inj ho
            exact wp_mv1 (.tmp 47) (.inr rfl) ⟨_, rfl, Below.refl _ _, dep_eval hD 7 (by kernel_rfl) rfl rfl⟩
          | j + 11, ho => simp at ho
        case hend =>
          intro vs W b us hB hlen hv hb h8 h6 hR
          obtain ⟨v0, v1, v2, v3, v4, v5, v6, v7, v8, v9, v10, rfl⟩ : ∃ v0 v1 v2 v3 v4 v5 v6 v7 v8 v9 v10, vs = [v0, v1, v2, v3, v4, v5, v6, v7, v8, v9, v10] := by
            match vs, hlen with
            | [v0, v1, v2, v3, v4, v5, v6, v7, v8, v9, v10], _ => exact ⟨_, _, _, _, _, _, _, _, _, _, _, rfl⟩
          obtain rfl : v0 = .agg #[.string REs, .string TX, .string ⟨#[]⟩, .bool true, .bool false] := hv 0 _ _ v0 (by decide) rfl rfl rfl
          obtain rfl : v1 = .int .i64 x := hv 1 _ _ v1 (by decide) rfl rfl rfl
          obtain rfl : v2 = .agg #[.string Us, .string ⟨#[]⟩, .string ⟨#[]⟩, .string ⟨#[]⟩, .string ⟨#[]⟩, .string Cs, .string ⟨#[]⟩, .int .i64 x, .bool false] := hv 2 _ _ v2 (by decide) rfl rfl rfl
          have e6 : AnsM V [] W v6 := hv 6 _ _ v6 (by decide) rfl rfl rfl
          obtain rfl : v7 = .int .u8 (errA V) := hv 7 _ _ v7 (by decide) rfl rfl rfl
          obtain rfl : v10 = .int .u8 (errA V) := hv 10 _ _ v10 (by decide) rfl rfl rfl
          obtain rfl : v8 = .pointer (some ⟨b, 0, none⟩) := Option.some.inj h8
          obtain rfl : v6 = .agg us.toArray := Option.some.inj h6
          have HB := Lib.hid hB; have HRB := Lib.hid hR; have E6 := Lib.hid e6; have LB := Lib.hid hb
          have BW := Lib.hid (bthen HBW.out hB); have RC := Lib.hid (HRC.out.below hB); have RU := Lib.hid (HRU.out.below hB); have RG := Lib.hid (HRG.out.below hB); have RA := Lib.hid ((HHA.out.below hB).up hB.size)
          clear hv hlen h8 h6 hb hB hR e6 HBW HRC HRU HRG HHA HB LB
          simp only [putL, Act.put, List.setIfInBounds_toArray, List.set_cons_zero, List.set_cons_succ]
          by_cases hx0 : x = 0
          · subst hx0
            obtain rfl : V = none := by rw [HV.out]; exact ansL_bad (by rfl)
            rw [show errA none = 2 from rfl]
            go_wp2_with fail
            go_roundw
            case rel => exact ⟨last, i + 1, rfl, by go_num, by omega, by omega, hl0, hl1, Lib.hid ⟨BW.out, RC.out, RU.out, A, c, RG.out, RA.out⟩⟩
            case measure => simp [intOf]; omega
          · have XO := Lib.hid (show XOk (byteL Us) (byteL REs) (byteL TX) (byteL Cs) x from ⟨byteL_by _, byteL_by _, byteL_by _, byteL_by _, x0, x1, by rw [TXC.out]; rfl⟩)
            obtain rfl : V = some (valA (XC (byteL Us) (byteL REs) (byteL TX) (byteL Cs) (byteL Ps) x false [])) := by rw [HV.out, ans_XC (by omega) x1 rfl, if_pos XO.out.cl]
            rw [show errA (some (valA (XC (byteL Us) (byteL REs) (byteL TX) (byteL Cs) (byteL Ps) x false []))) = 0 from rfl]
            obtain ⟨A6, c6, B6, d6, eu, hA6, _⟩ := E6.out
            obtain rfl : us = [.string INVs, .string BOBs, .int .i64 0, .string ⟨#[]⟩, .slice A6 2 c6, .slice B6 0 d6] := by injection eu with eu; simpa using congrArg Array.toList eu
            have HA6 := Lib.hid hA6
            have hne : (x == 0) = false := by simp [hx0]
            have hne' : decide (x = 0) = false := by simp [hx0]
            clear eu hA6 E6 HV
            go_wp2_with (first
              | (with_reducible refine wpList_loadR rfl 49 (.tmp 3) rfl RG.out rfl Tryz.underlying49 rfl (sizeG _ _ _ _ _) ?_)
              | (with_reducible refine wpList_loadR rfl 41 (.tmp 10) rfl HRB.out rfl Tryz.underlying41 rfl (sizeL6 _ _ _ _ _ _) ?_))
            have VE := Lib.hid (show verL REs KEs 100000 1 0 (2000 + (i : Int)) [⟨TX, 1000, last⟩] [(Us, SE)] (TwoH (XC (byteL Us) (byteL REs) (byteL TX) (byteL Cs) (byteL Ps) x false [])) INVs BOBs [] = if x ≤ last then ⟨REs, KEs, 100000, 1, [⟨TX, 1000, last⟩], ⟨#[]⟩, 7⟩ else ⟨REs, KEs, 100000, 1, [⟨TX, 1000, x⟩], Us, 0⟩ by
              rw [ver_one (j := 0) (s := SE) XO.out (badV_one (valid_one (by decide) (by decide) (by decide) (by decide) (by decide) (by decide) (by decide) (by decide) hl0 hl1) (by omega) (by omega)) (by rw [str_byteL]; unfold findK; simp [List.findIdx?_cons, hitA]) rfl (by rw [SEQ.out, byteL_str HSE.out]; rfl), if_neg (by omega), str_byteL])
            have VQ := Lib.hid (verify_any REs KEs INVs BOBs ⟨#[]⟩ 100000 1 0 (2000 + (i : Int)) A (some ⟨X2.heap.size, 0, none⟩) A6 B6 1 c 1 1 2 c6 0 d6 [⟨TX, 1000, last⟩] [(Us, SE)] (TwoH (XC (byteL Us) (byteL REs) (byteL TX) (byteL Cs) (byteL Ps) x false [])) [] W RA.out rfl (by decide)
              (fun _ => ⟨X2.heap.size, 0, rfl, RU.out.lt, fun j u hu => by rw [Nat.zero_add, RU.out.cell]; exact hu⟩) rfl (by decide) (fun h hh => by
                rw [List.mem_singleton] at hh; subst hh
                show SE.size ≤ _
                rw [SEQ.out, num_size, hashL_len]; decide) HA6.out rfl (by decide) (fun h hh => by
                unfold TwoH at hh
                rcases List.mem_cons.1 hh with rfl | hh
                · decide
                · rw [List.mem_singleton] at hh; subst hh
                  refine ⟨by show AUTHs.size ≤ _; decide, ?_⟩
                  show (strOfNums _).size ≤ _
                  rw [num_size]
                  have := valA_len (c := XC (byteL Us) (byteL REs) (byteL TX) (byteL Cs) (byteL Ps) x false []) (by
                    rw [XC_eq]
                    dsimp only
                    rw [byteL_len, byteL_len, byteL_len, byteL_len, byteL_len, XP_len, TXL.out]
                    decide)
                  omega) (fun y hy => by cases hy) rfl (by decide) (fun h => absurd h (by simp)) (by decide) (by decide) (by decide) (by decide) (fun e => by
                obtain ⟨b2, o2, e2, _⟩ := RA.out (by rw [ncs_len]; show 0 < 1 * 3; decide)
                rw [e] at e2; cases e2) (HK.out.below BW.out) (HS.out.below BW.out))
            rw [VE.out] at VQ
            clear VE
            refine VQ.out.mono ?_
            clear VQ
            by_cases hle : x ≤ last
            · rw [if_pos hle]
              have d5 : decide (last < x) = false := by simp; omega
              clear hle
              rintro e Z ⟨hbz, A9, c9, rfl, hA9⟩
              have BZ := Lib.hid (bthen BW.out hbz); have RCz := Lib.hid (RC.out.below hbz); have RUz := Lib.hid (RU.out.below hbz); have RGz := Lib.hid (RG.out.below hbz); have RAz := Lib.hid ((RA.out.below hbz).up hbz.size); have HA9 := Lib.hid hA9
              clear hbz hA9 BW RC RU RG RA HRB HA6
              rw [show ([(⟨TX, 1000, last⟩ : Nce)]).length = 1 from rfl]
              have N5 := Lib.hid (Row.new Z 49 [.string ⟨#[]⟩, .string ⟨#[]⟩, .int .i64 0, .int .i64 0, .slice none 0 0])
              have BA5 := Lib.hid ((Below.refl Z.heap.size Z).alloc (Nat.le_refl _) (.cells #[.string ⟨#[]⟩, .string ⟨#[]⟩, .int .i64 0, .int .i64 0, .slice none 0 0] 49))
              go_wp2_with (with_reducible refine wpList_storeR rfl 49 (.tmp 12) (.tmp 59) rfl N5.out [.string REs, .string KEs, .int .i64 100000, .int .i64 1, .slice A9 1 c9] rfl rfl (lenG _ _ _ _ _ _ _ _ _ _) (sizeG _ _ _ _ _) (g_one _ _ _ _ _ _ _) BA5.out (Nat.le_refl _) ?_)
              intro Y5 R12 B5 _
              have BW := Lib.hid (bthen BZ.out B5.out); have RC := Lib.hid (RCz.out.below B5.out); have RU := Lib.hid (RUz.out.below B5.out); have RG := Lib.hid (RGz.out.below B5.out); have RA := Lib.hid ((RAz.out.below B5.out).up B5.out.size); have HA9' := Lib.hid ((HA9.out.below B5.out).up B5.out.size)
              clear BZ RCz RUz RGz RAz HA9 N5 BA5 B5
              have SMQ := Lib.hid (same07_any REs KEs 100000 1 A9 A 1 c9 c [⟨TX, 1000, last⟩] Y5 HA9'.out RA.out rfl (by decide))
              obtain ⟨p0, p1, p2, p3, p4⟩ := R12.out.five
              obtain ⟨g0, g1, g2, g3, g4⟩ := RG.out.five
              go_wp2_with fail
              clear p0 p1 p2 p3 p4 g0 g1 g2 g3 g4
              refine SMQ.out.mono ?_
              rintro e Y9 ⟨rfl, hby⟩
              replace BW := Lib.hid (bthen BW.out hby); replace RC := Lib.hid (RC.out.below hby); replace RU := Lib.hid (RU.out.below hby); replace RG := Lib.hid (RG.out.below hby); replace HA9' := Lib.hid ((HA9'.out.below hby).up hby.size); replace R12 := Lib.hid (R12.out.below hby); replace RA := Lib.hid ((RA.out.below hby).up hby.size)
              clear hby SMQ
              have NEB := Lib.hid (show ∀ b o s, A9 = some ⟨b, o, s⟩ → b ≠ X.heap.size from fun b o s e => by
                obtain ⟨b2, o2, e2, _, h2⟩ := HA9'.out (by rw [ncs_len]; show 0 < 1 * 3; decide)
                rw [e] at e2
                injection e2 with e2
                injection e2 with e3
                subst e3
                exact row_ne (ad := ⟨b, o2 + 0, none⟩) RG.out (h2 0 _ rfl) (by
                  intro hm
                  simp only [List.mem_cons, List.not_mem_nil, or_false, Value.string.injEq, reduceCtorEq, false_or] at hm
                  have hz := TXL.out
                  rcases hm with h | h <;> (rw [h] at hz; exact absurd hz (by decide))))
              go_wp2_with (first
                | (with_reducible refine wpList_loadR rfl 49 (.tmp 12) rfl R12.out rfl Tryz.underlying49 rfl (sizeG _ _ _ _ _) ?_)
                | (with_reducible refine wpList_storeR rfl 49 (.tmp 3) (.tmp 93) rfl RG.out [.string REs, .string KEs, .int .i64 100000, .int .i64 1, .slice A9 1 c9] rfl rfl (lenG _ _ _ _ _ _ _ _ _ _) (sizeG _ _ _ _ _) (g_one _ _ _ _ _ _ _) BW.out LW.out ?_))
              intro Y6 R3 B6' H6
              have RC6 := Lib.hid (show Row Y6 (X.heap.size + 1) 36 [.string REs, .string TX, .string ⟨#[]⟩, .bool true, .bool false] from (H6.out.2 _ (by omega)).trans RC.out)
              have RU6 := Lib.hid (show Row Y6 X2.heap.size 54 [.string Us, .string SE] from (H6.out.2 _ (by have := L5.out; omega)).trans RU.out)
              have RA6 := Lib.hid (HA9'.out.heapS (x := X.heap.size) NEB.out H6.out.1 H6.out.2)
              clear R12 BW RC RU RG RA HA9' H6 NEB
              go_wp2_with fail
              go_roundw
              case rel => exact ⟨last, i + 1, rfl, by go_num, by omega, by omega, by omega, by omega, Lib.hid ⟨B6'.out, RC6.out, RU6.out, A9, c9, R3.out, RA6.out⟩⟩
              case measure => simp [intOf]; omega
            · rw [if_neg hle]
              have d5 : decide (last < x) = true := by simp; omega
              clear hle
              rintro e Z ⟨hbz, A9, c9, rfl, hA9⟩
              have BZ := Lib.hid (bthen BW.out hbz); have RCz := Lib.hid (RC.out.below hbz); have RUz := Lib.hid (RU.out.below hbz); have RGz := Lib.hid (RG.out.below hbz); have RAz := Lib.hid ((RA.out.below hbz).up hbz.size); have HA9 := Lib.hid hA9
              clear hbz hA9 BW RC RU RG RA HRB HA6
              rw [show ([(⟨TX, 1000, x⟩ : Nce)]).length = 1 from rfl]
              have N5 := Lib.hid (Row.new Z 49 [.string ⟨#[]⟩, .string ⟨#[]⟩, .int .i64 0, .int .i64 0, .slice none 0 0])
              have BA5 := Lib.hid ((Below.refl Z.heap.size Z).alloc (Nat.le_refl _) (.cells #[.string ⟨#[]⟩, .string ⟨#[]⟩, .int .i64 0, .int .i64 0, .slice none 0 0] 49))
              go_wp2_with (with_reducible refine wpList_storeR rfl 49 (.tmp 12) (.tmp 59) rfl N5.out [.string REs, .string KEs, .int .i64 100000, .int .i64 1, .slice A9 1 c9] rfl rfl (lenG _ _ _ _ _ _ _ _ _ _) (sizeG _ _ _ _ _) (g_one _ _ _ _ _ _ _) BA5.out (Nat.le_refl _) ?_)
              intro Y5 R12 B5 _
              have BW := Lib.hid (bthen BZ.out B5.out); have RC := Lib.hid (RCz.out.below B5.out); have RU := Lib.hid (RUz.out.below B5.out); have RG := Lib.hid (RGz.out.below B5.out); have RA := Lib.hid ((RAz.out.below B5.out).up B5.out.size); have HA9' := Lib.hid ((HA9.out.below B5.out).up B5.out.size)
              clear BZ RCz RUz RGz RAz HA9 N5 BA5 B5
              have NEB := Lib.hid (show ∀ b o s, A9 = some ⟨b, o, s⟩ → b ≠ X.heap.size from fun b o s e => by
                obtain ⟨b2, o2, e2, _, h2⟩ := HA9'.out (by rw [ncs_len]; show 0 < 1 * 3; decide)
                rw [e] at e2
                injection e2 with e2
                injection e2 with e3
                subst e3
                exact row_ne (ad := ⟨b, o2 + 0, none⟩) RG.out (h2 0 _ rfl) (by
                  intro hm
                  simp only [List.mem_cons, List.not_mem_nil, or_false, Value.string.injEq, reduceCtorEq, false_or] at hm
                  have hz := TXL.out
                  rcases hm with h | h <;> (rw [h] at hz; exact absurd hz (by decide))))
              go_wp2_with (first
                | (with_reducible refine wpList_loadR rfl 49 (.tmp 12) rfl R12.out rfl Tryz.underlying49 rfl (sizeG _ _ _ _ _) ?_)
                | (with_reducible refine wpList_storeR rfl 49 (.tmp 3) (.tmp 93) rfl RG.out [.string REs, .string KEs, .int .i64 100000, .int .i64 1, .slice A9 1 c9] rfl rfl (lenG _ _ _ _ _ _ _ _ _ _) (sizeG _ _ _ _ _) (g_one _ _ _ _ _ _ _) BW.out LW.out ?_))
              intro Y6 R3 B6' H6
              have RC6 := Lib.hid (show Row Y6 (X.heap.size + 1) 36 [.string REs, .string TX, .string ⟨#[]⟩, .bool true, .bool false] from (H6.out.2 _ (by omega)).trans RC.out)
              have RU6 := Lib.hid (show Row Y6 X2.heap.size 54 [.string Us, .string SE] from (H6.out.2 _ (by have := L5.out; omega)).trans RU.out)
              have RA6 := Lib.hid (HA9'.out.heapS (x := X.heap.size) NEB.out H6.out.1 H6.out.2)
              clear R12 BW RC RU RG RA HA9' H6 NEB
              go_wp2_with fail
              go_roundw
              case rel => exact ⟨x, i + 1, rfl, by go_num, by omega, by omega, by omega, by omega, Lib.hid ⟨B6'.out, RC6.out, RU6.out, A9, c9, R3.out, RA6.out⟩⟩
              case measure => simp [intOf]; omega
      · have hd3 : decide (i < 100) = false := by simp [hlt2]
        have hd4 : decide ((i : Int) < 100) = false := by simp; omega
        obtain ⟨BW, _⟩ := HI.out
        go_wp2_with fail
        refine (awake_any _ (HG.out.below BW)).mono ?_
        rintro e w9 ⟨rfl, hb9⟩
        have B9 := Lib.hid (bthen BW hb9)
        clear hb9
        go_wp2_with fail
        go_ret
        exact ⟨rfl, B9.out⟩
    · have hd : decide (i < cn) = false := by simp [hlt]
      have hd2 : decide ((i : Int) < (cn : Int)) = false := by simp; omega
      obtain ⟨BW, _⟩ := HI.out
      go_wp2_with fail
      refine (awake_any _ (HG.out.below BW)).mono ?_
      rintro e w9 ⟨rfl, hb9⟩
      have B9 := Lib.hid (bthen BW hb9)
      clear hb9
      go_wp2_with fail
      go_ret
      exact ⟨rfl, B9.out⟩
end Go.Proofs.YtfhbpgickkibmaaGreatDoor
