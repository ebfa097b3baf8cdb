/- The law AuthVerifies, from Verify's contract. -/
import Derived.Test.YtfhbpgickkibmaaGreatDoorRd
import Derived.Test.YtfhbpgickkibmaaGreatDoorNg
import Derived.Test.YtfhbpgickkibmaaGreatDoorDg
namespace Go.Proofs.YtfhbpgickkibmaaGreatDoor
open Go.RowKit

/-- auth's Verify answers what the plain law says. -/
def VerifyHolds : Prop := ∀ (re ke ms uri rsn : ByteArray) (life iss code now : Int) (Ea U A B : Option Addr) (en ec un uc n c m d : Nat) (l : List Nce) (us hs : List (ByteArray × ByteArray)) (bs : List Int) (w : World)
    (hE : Rds w w.heap.size Ea (ncs l)) (hen : l.length = en) (henN : en ≤ 2000000) (hU : Rds w w.heap.size U (hds us)) (hun : us.length = un) (hunN : un ≤ 16000000) (hus : ∀ h ∈ us, h.2.size ≤ 4000000)
    (hA : Rds w w.heap.size A (hds hs)) (hn : hs.length = n) (hN : n ≤ 4000000) (hl : ∀ h ∈ hs, h.1.size ≤ 4000000 ∧ h.2.size ≤ 4000000) (hb : By bs) (hm : bs.length = m) (hM : m ≤ 16000000) (hB : Bs w w.heap.size B bs)
    (s1 : re.size ≤ 4000000) (s2 : ke.size ≤ 4000000) (s7 : ms.size ≤ 4000000) (s8 : uri.size ≤ 4000000), (Ea = none → en = 0 ∧ ec = 0) → KC w → SC w → Calls Tryz.prog 25 #[.agg #[.string re, .string ke, .int .i64 life, .int .i64 iss, .slice Ea en ec], .slice U un uc, .agg #[.string ms, .string uri, .int .i64 code, .string rsn, .slice A n c, .slice B m d], .int .i64 now] w (VerP (verL re ke life iss code now l us hs ms uri bs) w)
theorem nonceV_len (life now : Int) (l : List Nce) (c : Cr) : (nonceV life now l c).2.length = l.length := by
  unfold nonceV
  split
  · rfl
  · split
    · rfl
    · split
      · rfl
      · exact List.length_set
theorem verL_len {re ke ms uri : ByteArray} {life iss code now : Int} {l : List Nce} {us hs : List (ByteArray × ByteArray)} {bs : List Int} (h : l.length ≤ 16000000) : (verL re ke life iss code now l us hs ms uri bs).l.length ≤ 16000000 := by
  unfold verL
  split
  · exact Nat.zero_le _
  · split
    · exact h
    · split
      · exact h
      · dsimp only
        rw [nonceV_len]
        exact h
section
variable {w : World} {b : Nat} {T : TypeId} {x0 x1 x2 x3 x4 y0 y1 : Value}
theorem desk0 (h : Row w b T [x0, x1, x2, x3, x4, y0, y1]) : w.rangeAt b 0 [x0, x1, x2, x3, x4] := Row.at (pre := []) (cs := [x0, x1, x2, x3, x4]) (post := [y0, y1]) h
end
set_option maxRecDepth 100000 in
set_option maxHeartbeats 4000000 in
theorem verifies_of (HV : VerifyHolds) (re ke ms uri rsn : ByteArray) (life iss code now : Int) (Ea U A B : Option Addr) (en ec un uc n c m d : Nat) (l : List Nce) (us hs : List (ByteArray × ByteArray)) (bs : List Int) (w : World)
    (hE : Rds w w.heap.size Ea (ncs l)) (hen : l.length = en) (henN : en ≤ 1048576) (hU : Rds w w.heap.size U (hds us)) (hun : us.length = un) (hunN : un ≤ 1048576) (hus : ∀ h ∈ us, h.2.size ≤ 1048576)
    (hA : Rds w w.heap.size A (hds hs)) (hn : hs.length = n) (hN : n ≤ 1048576) (hl : ∀ h ∈ hs, h.1.size ≤ 1048576 ∧ h.2.size ≤ 1048576) (hb : By bs) (hm : bs.length = m) (hM : m ≤ 1048576) (hB : Bs w w.heap.size B bs)
    (s1 : re.size ≤ 1048576) (s2 : ke.size ≤ 1048576) (s7 : ms.size ≤ 1048576) (s8 : uri.size ≤ 1048576) (hnil : Ea = none → en = 0 ∧ ec = 0) (hG : GM w) (hK : KC w) (hS : SC w) :
    Calls Tryz.prog 6 #[.agg #[.string re, .string ke, .int .i64 life, .int .i64 iss, .slice Ea en ec, .slice U un uc, .int .i64 now], .agg #[.string ms, .string uri, .int .i64 code, .string rsn, .slice A n c, .slice B m d]] w fun e w' => e = .returned (.bool true) ∧ Below w.heap.size w w' := by
  have AN := Lib.hid (fun (X : World) (b : Below w.heap.size w X) => HV re ke ms uri rsn life iss code now Ea U A B en ec un uc n c m d l us hs bs X ((hE.below b).up b.size) hen (by omega) ((hU.below b).up b.size) hun (by omega) (fun h hh => by have := hus h hh; omega) ((hA.below b).up b.size) hn (by omega) (fun h hh => by have := hl h hh; omega) hb hm (by omega) ((hB.below b).up b.size) (by omega) (by omega) (by omega) (by omega) hnil (hK.below b) (hS.below b))
  have RN := Lib.hid (fun (X : World) (b : Below w.heap.size w X) => refverify_any re ke ms uri rsn life iss code now Ea U A B en ec un uc n c m d l us hs bs X ((hE.below b).up b.size) hen (by omega) ((hU.below b).up b.size) hun (by omega) (fun h hh => by have := hus h hh; omega) ((hA.below b).up b.size) hn (by omega) (fun h hh => by have := hl h hh; omega) hb hm (by omega) ((hB.below b).up b.size) (by omega) (by omega) (by omega) (by omega))
  have hVl := verL_len (re := re) (ke := ke) (life := life) (iss := iss) (code := code) (now := now) (l := l) (us := us) (hs := hs) (ms := ms) (uri := uri) (bs := bs) (by omega : l.length ≤ 16000000)
  generalize verL re ke life iss code now l us hs ms uri bs = V at *
  have HL16 := Lib.hid (show ∀ k : Nat, k ≤ 1048576 → k ≤ 16000000 from fun _ h => by omega)
  have HG := Lib.hid hG; have HU := Lib.hid hU; have HUN := Lib.hid hun
  clear HV hnil hE hen hU hun hus hA hn hl hb hm hB hG hK hS HL16
  have R2 := Lib.hid (show Row ((w.alloc (.cells #[.string re, .string ke, .int .i64 life, .int .i64 iss, .slice Ea en ec, .slice U un uc, .int .i64 now] 52)).alloc (.cells #[.string ms, .string uri, .int .i64 code, .string rsn, .slice A n c, .slice B m d] 41)) w.heap.size 52 [.string re, .string ke, .int .i64 life, .int .i64 iss, .slice Ea en ec, .slice U un uc, .int .i64 now] from (Row.new w 52 [.string re, .string ke, .int .i64 life, .int .i64 iss, .slice Ea en ec, .slice U un uc, .int .i64 now]).alloc _)
  have R3 := Lib.hid (show Row ((w.alloc (.cells #[.string re, .string ke, .int .i64 life, .int .i64 iss, .slice Ea en ec, .slice U un uc, .int .i64 now] 52)).alloc (.cells #[.string ms, .string uri, .int .i64 code, .string rsn, .slice A n c, .slice B m d] 41)) (w.heap.size + 1) 41 [.string ms, .string uri, .int .i64 code, .string rsn, .slice A n c, .slice B m d] by
    have h := Row.new (w.alloc (.cells #[.string re, .string ke, .int .i64 life, .int .i64 iss, .slice Ea en ec, .slice U un uc, .int .i64 now] 52)) 41 [.string ms, .string uri, .int .i64 code, .string rsn, .slice A n c, .slice B m d]
    rwa [World.size_alloc] at h)
  have B0 := Lib.hid (show Below w.heap.size w ((w.alloc (.cells #[.string re, .string ke, .int .i64 life, .int .i64 iss, .slice Ea en ec, .slice U un uc, .int .i64 now] 52)).alloc (.cells #[.string ms, .string uri, .int .i64 code, .string rsn, .slice A n c, .slice B m d] 41)) from ((Below.refl _ _).alloc (Nat.le_refl _) _).alloc (by simp) _)
  go_enter Tryz.func6, Tryz.ntmps6
  go_wp2_with (with_reducible refine wpList_loadR rfl 41 (.tmp 3) rfl R3.out rfl Tryz.underlying41 rfl (sizeL6 _ _ _ _ _ _) ?_)
  generalize (w.alloc (.cells #[.string re, .string ke, .int .i64 life, .int .i64 iss, .slice Ea en ec, .slice U un uc, .int .i64 now] 52)).alloc (.cells #[.string ms, .string uri, .int .i64 code, .string rsn, .slice A n c, .slice B m d] 41) = W at *
  refine (light_any ms uri rsn code A B n c m d W).mono ?_
  rintro e w1 ⟨rfl, hb1⟩
  have R2' := Lib.hid (R2.out.below hb1)
  have R3' := Lib.hid (R3.out.below hb1)
  have B1 := Lib.hid (bthen B0.out hb1)
  clear hb1 R2 R3 B0
  have R2 := R2'; have R3 := R3'
  clear R2' R3'
  have e5 : w1.cell? ⟨w.heap.size, 5, none⟩ = some (.slice U un uc) := R2.out.cell 5
  have m0 : w1.cell? ⟨w.heap.size + 1, 0, none⟩ = some (.string ms) := R3.out.cell 0
  have m1 : w1.cell? ⟨w.heap.size + 1, 1, none⟩ = some (.string uri) := R3.out.cell 1
  cases hli : (decide (n ≤ 100) && decide (m ≤ 3000)) with
  | false =>
    clear hli e5 m0 m1
    go_wp2_with fail
    refine (awake_any _ (HG.out.below B1.out)).mono ?_
    rintro e w2 ⟨rfl, hb2⟩
    have B2 := Lib.hid (bthen B1.out hb2)
    clear hb2
    go_wp2_with fail
    go_ret
    exact ⟨rfl, B2.out⟩
  | true =>
    clear hli
    by_cases k1 : 100 < un
    · have d1 : decide ((100 : Int) < (un : Int)) = true := by simp; omega
      have d1n : decide (100 < un) = true := by simp [k1]
      clear k1
      go_wp2_with fail
      refine (awake_any _ (HG.out.below B1.out)).mono ?_
      rintro e w2 ⟨rfl, hb2⟩
      have B2 := Lib.hid (bthen B1.out hb2)
      clear hb2
      go_wp2_with fail
      go_ret
      exact ⟨rfl, B2.out⟩
    have d1 : decide ((100 : Int) < (un : Int)) = false := by simp; omega
    have d1n : decide (100 < un) = false := by simp; omega
    by_cases k2 : 3000 < uri.size + ms.size
    · have d2 : decide ((3000 : Int) < (uri.size : Int) + (ms.size : Int)) = true := by simp; omega
      clear k1 k2
      go_wp2_with fail
      refine (awake_any _ (HG.out.below B1.out)).mono ?_
      rintro e w2 ⟨rfl, hb2⟩
      have B2 := Lib.hid (bthen B1.out hb2)
      clear hb2
      go_wp2_with fail
      go_ret
      exact ⟨rfl, B2.out⟩
    have d2 : decide ((3000 : Int) < (uri.size : Int) + (ms.size : Int)) = false := by simp; omega
    clear k1 k2
    go_wp2_with fail
    clear d1 d1n d2 m0 m1
    have HU1 := Lib.hid (HU.out.below B1.out)
    go_loopw [5] (fun v wr => ∃ k : Nat, k ≤ un ∧ v = .int .i64 k ∧ Hid (wr = w1)) (fun v _ => un - (intOf v).toNat)
    case atStart => exact ⟨0, Nat.zero_le _, rfl, by first | exact Lib.hid rfl | exact Lib.hid trivial⟩
    case round =>
    obtain ⟨k, hk, rfl, HW⟩ := hrel
    obtain rfl := HW.out
    clear HW
    by_cases hlt : k < un
    · have hd : decide (k < un) = true := by simp [hlt]
      have hd2 : decide ((k : Int) < (un : Int)) = true := by simp; omega
      obtain ⟨p, hp⟩ : ∃ p, us[k]? = some p := ⟨_, List.getElem?_eq_getElem (by rw [HUN.out]; exact hlt)⟩
      obtain ⟨x1, o1, rfl, hx1, hc1⟩ := HU1.out (by rw [hds_len, HUN.out]; omega)
      have c1 : wr.cell? ⟨x1, o1 + k * 2 + 1, none⟩ = some (.string p.2) := Rds.range (B := 0) hc1 (k * 2) _ (hds_at hp) 1 _ rfl
      clear hc1 hp
      by_cases k3 : 3000 < p.2.size
      · have d3 : decide ((3000 : Int) < (p.2.size : Int)) = true := by simp; omega
        have d3n : decide (3000 < p.2.size) = true := by simp [k3]
        clear k3
        go_wp2_with fail
        refine (awake_any _ (HG.out.below B1.out)).mono ?_
        rintro e w2 ⟨rfl, hb2⟩
        have B2 := Lib.hid (bthen B1.out hb2)
        clear hb2
        go_wp2_with fail
        go_ret
        exact ⟨rfl, B2.out⟩
      · have d3 : decide ((3000 : Int) < (p.2.size : Int)) = false := by simp; omega
        have d3n : decide (3000 < p.2.size) = false := by simp; omega
        clear k3
        go_wp2_with fail
        go_roundw
        case rel => exact ⟨k + 1, by omega, by go_num, by first | exact Lib.hid rfl | exact Lib.hid trivial⟩
        case measure => simp [intOf]; omega
    obtain rfl : k = un := by omega
    clear e5
    have G0 := Lib.hid (show wr.rangeAt w.heap.size 0 [.string re, .string ke, .int .i64 life, .int .i64 iss, .slice Ea en ec] from desk0 R2.out)
    have e5 : wr.cell? ⟨w.heap.size, 5, none⟩ = some (.slice U k uc) := R2.out.cell 5
    have e6 : wr.cell? ⟨w.heap.size, 6, none⟩ = some (.int .i64 now) := R2.out.cell 6
    go_wp2_with (first
      | (with_reducible refine wpList_load_mid rfl 49 (.tmp 49) rfl w.heap.size 0 rfl [.string re, .string ke, .int .i64 life, .int .i64 iss, .slice Ea en ec] _ G0.out Tryz.underlying49 rfl (sizeG _ _ _ _ _) ?_)
      | (with_reducible refine wpList_loadR rfl 41 (.tmp 3) rfl R3.out rfl Tryz.underlying41 rfl (sizeL6 _ _ _ _ _ _) ?_))
    clear G0 e5 e6
    refine (AN.out _ B1.out).mono ?_
    rintro e X ⟨hbx, A1, c1, rfl, hA1⟩
    have R2' := Lib.hid (R2.out.below hbx)
    have R3' := Lib.hid (R3.out.below hbx)
    have BX := Lib.hid (bthen B1.out hbx)
    clear hbx R2 R3 B1
    have N5 := Lib.hid (Row.new X 49 [.string ⟨#[]⟩, .string ⟨#[]⟩, .int .i64 0, .int .i64 0, .slice none 0 0])
    have BA5 := Lib.hid ((Below.refl X.heap.size X).alloc (Nat.le_refl _) (.cells #[.string ⟨#[]⟩, .string ⟨#[]⟩, .int .i64 0, .int .i64 0, .slice none 0 0] 49))
    go_wp2_with (with_reducible refine wpList_storeR rfl 49 (.tmp 6) (.tmp 57) rfl N5.out [.string V.re, .string V.ke, .int .i64 V.life, .int .i64 V.iss, .slice A1 V.l.length c1] rfl rfl (lenG _ _ _ _ _ _ _ _ _ _) (sizeG _ _ _ _ _) (g_one _ _ _ _ _ _ _) BA5.out (Nat.le_refl _) ?_)
    intro X5 R5 B5 _
    have R2 := Lib.hid (R2'.out.below B5.out)
    have R3 := Lib.hid (R3'.out.below B5.out)
    have BX5 := Lib.hid (bthen BX.out B5.out)
    have HA1 := Lib.hid ((hA1.below B5.out).up B5.out.size)
    clear R2' R3' BX N5 BA5 B5 hA1
    have G0 := Lib.hid (show X5.rangeAt w.heap.size 0 [.string re, .string ke, .int .i64 life, .int .i64 iss, .slice Ea en ec] from desk0 R2.out)
    have e5 : X5.cell? ⟨w.heap.size, 5, none⟩ = some (.slice U k uc) := R2.out.cell 5
    have e6 : X5.cell? ⟨w.heap.size, 6, none⟩ = some (.int .i64 now) := R2.out.cell 6
    go_wp2_with (first
      | (with_reducible refine wpList_load_mid rfl 49 (.tmp 61) rfl w.heap.size 0 rfl [.string re, .string ke, .int .i64 life, .int .i64 iss, .slice Ea en ec] _ G0.out Tryz.underlying49 rfl (sizeG _ _ _ _ _) ?_)
      | (with_reducible refine wpList_loadR rfl 41 (.tmp 3) rfl R3.out rfl Tryz.underlying41 rfl (sizeL6 _ _ _ _ _ _) ?_))
    clear G0 e5 e6
    refine (RN.out _ BX5.out).mono ?_
    rintro e Y ⟨hby, A2, c2, rfl, hA2⟩
    have BY' := Lib.hid (bthen BX5.out hby)
    have R5' := Lib.hid (R5.out.below hby)
    have HA1' := Lib.hid ((HA1.out.below hby).up hby.size)
    clear hby R2 R3 R5 HA1 BX5
    have N7 := Lib.hid (Row.new Y 49 [.string ⟨#[]⟩, .string ⟨#[]⟩, .int .i64 0, .int .i64 0, .slice none 0 0])
    have BA7 := Lib.hid ((Below.refl Y.heap.size Y).alloc (Nat.le_refl _) (.cells #[.string ⟨#[]⟩, .string ⟨#[]⟩, .int .i64 0, .int .i64 0, .slice none 0 0] 49))
    go_wp2_with (with_reducible refine wpList_storeR rfl 49 (.tmp 9) (.tmp 69) rfl N7.out [.string V.re, .string V.ke, .int .i64 V.life, .int .i64 V.iss, .slice A2 V.l.length c2] rfl rfl (lenG _ _ _ _ _ _ _ _ _ _) (sizeG _ _ _ _ _) (g_one _ _ _ _ _ _ _) BA7.out (Nat.le_refl _) ?_)
    intro Y7 R7 B7 _
    have R5 := Lib.hid (R5'.out.below B7.out)
    have HA1 := Lib.hid ((HA1'.out.below B7.out).up B7.out.size)
    have HA2 := Lib.hid ((hA2.below B7.out).up B7.out.size)
    have BZ := Lib.hid (bthen BY'.out B7.out)
    clear R5' HA1' hA2 BY' N7 BA7 B7
    go_wp2_with (first
      | (with_reducible refine wpList_loadR rfl 49 (.tmp 6) rfl R5.out rfl Tryz.underlying49 rfl (sizeG _ _ _ _ _) ?_)
      | (with_reducible refine wpList_loadR rfl 49 (.tmp 9) rfl R7.out rfl Tryz.underlying49 rfl (sizeG _ _ _ _ _) ?_))
    refine (same07_any V.re V.ke V.life V.iss A1 A2 V.l.length c1 c2 V.l _ HA1.out HA2.out rfl hVl).mono ?_
    rintro e Z ⟨rfl, hbz⟩
    have BW := Lib.hid (bthen BZ.out hbz)
    clear hbz
    go_wp2_with fail
    refine (awake_any _ (HG.out.below BW.out)).mono ?_
    rintro e w9 ⟨rfl, hb9⟩
    have B9 := Lib.hid (bthen BW.out hb9)
    clear hb9
    go_wp2_with fail
    go_ret
    exact ⟨rfl, B9.out⟩
end Go.Proofs.YtfhbpgickkibmaaGreatDoor
