/- Contracts: address's Unescape, content, wrong, Host. And what stands behind it. -/
import Derived.Test.YthfonniieaiocaaGreatDoorEg
import Derived.Test.YthfonniieaiocaaGreatDoorBl
import Derived.Test.YthfonniieaiocaaGreatDoorBn
import Derived.Test.YthfonniieaiocaaGreatDoorBj
import Derived.Test.YthfonniieaiocaaGreatDoorAd
import Derived.Test.YthfonniieaiocaaGreatDoorBp
import Derived.Laws.RangeAny
import Derived.Deep.LoopGhost
import Derived.WalkMore
import Derived.ScopeJumps
import Derived.Lib.IndexAny
import Derived.Lib.OthersKept
set_option linter.unusedVariables false
set_option linter.unusedSimpArgs false
set_option maxRecDepth 100000
set_option maxHeartbeats 4000000
namespace Go.Proofs.YthfonniieaiocaaGreatDoor
open Go.RowKit

def unescV (X : List Int) : Value := .tuple #[.string (strOfNums (unescL X).1), .int .i64 ((unescL X).2.1 : Nat), .int .u8 (unescL X).2.2]
def UNR (w : World) (X : List Int) (n : Nat) (R : List Int × Nat × Int) (v v6 : Value) (wr : World) : Prop := ∃ (i f : Nat) (x : Value) (L : List Int), i ≤ n ∧ x = v ∧ v6 = .int .i64 i ∧ L.length ≤ i ∧ n + 1 ≤ f + i ∧ Hid (R = unescN X f i L) ∧ Hid (OX w x L wr)
theorem ret_un {a b : Value} (h : a = b) : Ending.returned a = .returned b := by rw [h]
theorem unv_ok {R : List Int × Nat × Int} {L : List Int} (h : R = (L, 0, 0)) : Value.tuple #[.string (strOfNums R.1), .int .i64 (R.2.1 : Nat), .int .u8 R.2.2] = .tuple #[.string (strOfNums L), .int .i64 0, .int .u8 0] := by subst h; rfl
theorem unv_bad {R : List Int × Nat × Int} {i : Nat} (h : R = ([], i, 5)) : Value.tuple #[.string (strOfNums R.1), .int .i64 (R.2.1 : Nat), .int .u8 R.2.2] = .tuple #[.string ⟨#[]⟩, .int .i64 i, .int .u8 5] := by subst h; rfl
theorem escat_yes (s : ByteArray) (i : Nat) (w : World) (hi : i < s.size) (hs : s.size ≤ 4000000) (h : 0 ≤ escAt (byteL s) i) : Calls Tryz.prog 55 #[.string s, .int .i64 i] w fun e w' => e = .returned (.tuple #[.int .u8 (escAt (byteL s) i), .bool true]) ∧ w = w' :=
  (escat_any s i w hi hs).mono fun e w' ⟨⟨x, he, hx⟩, hw⟩ => ⟨by rw [he, hx h, decide_eq_true h], hw⟩
theorem escat_no (s : ByteArray) (i : Nat) (w : World) (hi : i < s.size) (hs : s.size ≤ 4000000) (h : escAt (byteL s) i < 0) : Calls Tryz.prog 55 #[.string s, .int .i64 i] w fun e w' => (∃ x : Int, e = .returned (.tuple #[.int .u8 x, .bool false])) ∧ w = w' :=
  (escat_any s i w hi hs).mono fun e w' ⟨⟨x, he, hx⟩, hw⟩ => ⟨⟨x, by rw [he, decide_eq_false (by omega)]⟩, hw⟩
theorem unescape_any (s : ByteArray) (w : World) (hs : s.size ≤ 4000000) : Calls Tryz.prog 18 #[.string s] w fun e w' => e = .returned (unescV (byteL s)) ∧ Below w.heap.size w w' := by
  have HL := kd (byteL_len s)
  have RE := kd (show unescL (byteL s) = unescN (byteL s) (s.size + 1) 0 [] by unfold unescL; rw [byteL_len])
  have EY := kd (fun i h w h2 => escat_yes s i w h hs h2)
  have EN := kd (fun i h w h2 => escat_no s i w h hs h2)
  have ER := kd (fun i => escAt_range (byteL s) i)
  unfold unescV
  generalize unescL (byteL s) = R at *
  obtain ⟨X, hX⟩ : ∃ X, byteL s = X := ⟨_, rfl⟩
  have HX := kd hX
  rw [hX] at HL RE EY EN ER
  clear hX
  go_enter Tryz.func18, Tryz.ntmps18
  go_wp2_with (with_reducible refine wpList_make0 rfl _ _ s.size rfl ?h1 ?h2 (by omega) ?_)
  try case h1 => rfl
  try case h2 => rfl
  intro v0 w0 m0
  have M0 := kd m0
  clear m0
  go_wp2_with fail
  go_loopw [5, 6] (fun v v6 wr => UNR w X s.size R v v6 wr) (fun _ v _ => s.size - (intOf v).toNat)
  case atStart => exact ⟨0, s.size + 1, _, [], Nat.zero_le _, rfl, rfl, Nat.le_refl _, by omega, RE, M0⟩
  case round =>
    clear M0 RE
    obtain ⟨i, f, x, L, hi, rfl, rfl, hL, hf, RE, H⟩ := hrel
    obtain ⟨f, rfl⟩ : ∃ g, f = g + 1 := ⟨f - 1, by omega⟩
    by_cases hlt : i < s.size
    · have hd : decide ((i : Int) < (s.size : Int)) = true := by simp; omega
      have d1 := fun w => idx_str s (i := i) hlt (z := (i : Int)) rfl w
      rw [HX.out] at d1
      have U1 := kd (fun h => unescN_plain (xs := X) (f := f) (i := i) (acc := L) (by rw [HL.out]; exact hlt) h)
      have U2 := kd (fun h h2 => unescN_bad (xs := X) (f := f) (i := i) (acc := L) (by rw [HL.out]; exact hlt) h h2)
      have U3 := kd (fun h (h2 : 0 ≤ escAt X i) => unescN_esc (xs := X) (f := f) (i := i) (acc := L) (by rw [HL.out]; exact hlt) h (by omega))
      have EY2 := kd (EY.out i hlt wr)
      have EN2 := kd (EN.out i hlt wr)
      have U4 := kd (show 0 ≤ escAt X i → i + 3 ≤ s.size from fun h => by
        unfold escAt at h
        split at h
        · omega
        · rename_i h2; rw [not_or] at h2; have := h2.1; rw [HL.out] at this; omega)
      generalize escAt X i = ec at *
      generalize X.getD i 0 = c at *
      by_cases h37 : c = 37
      · subst h37
        by_cases hn : ec < 0
        · have E := kd (unv_bad (RE.out.trans (U2.out rfl hn)))
          have EI := kd (EN2.out hn)
          clear U1 U2 U3 U4 RE EY EN EY2 EN2 hn
          go_wp2_with (go_at_call 55; refine EI.out.mono ?_; rintro e w1 ⟨⟨x1, rfl⟩, rfl⟩)
          go_ret3
          exact ⟨ret_un E.out.symm, H.out.bw⟩
        · replace hn : 0 ≤ ec := by omega
          have E := kd (RE.out.trans (U3.out rfl hn))
          have i3 := U4.out hn
          have EI := kd (EY2.out hn)
          clear U1 U2 U3 U4 RE EY EN EY2 EN2 hn
          go_wp2_with (first | (go_at_call 55; refine EI.out.mono ?_; rintro e w1 ⟨rfl, rfl⟩) | (with_reducible refine wpList_push1 rfl (.tmp 37) (.tmp 39) rfl x L rfl H.out ec rfl (by omega) ?_))
          intro v3 w3 L3 E3 l3 M3
          go_wp2_with fail
          go_roundw
          case rel => exact ⟨i + 3, f, v3, L3, by omega, rfl, by go_num, by omega, by omega, kd (by rw [E.out, E3.out]), M3⟩
          case measure => simp [intOf]; omega
      · have q0 : (c == 37) = false := by simpa using h37
        have E := kd (RE.out.trans (U1.out h37))
        clear U1 U2 U3 U4 RE EY EN EY2 EN2 h37
        go_wp2_with (with_reducible refine wpList_push1 rfl (.tmp 22) (.tmp 26) rfl x L rfl H.out c rfl (by omega) ?_)
        intro v3 w3 L3 E3 l3 M3
        go_wp2_with fail
        go_roundw
        case rel => exact ⟨i + 1, f, v3, L3, by omega, rfl, by go_num, by omega, by omega, kd (by rw [E.out, E3.out]), M3⟩
        case measure => simp [intOf]; omega
    · obtain rfl : i = s.size := by omega
      have E := kd (unv_ok (RE.out.trans (unescN_end (by rw [HL.out]; exact Nat.le_refl _))))
      have cv := conv_owned H.out.o
      go_wp2_with fail
      go_ret3
      exact ⟨ret_un E.out.symm, H.out.bw⟩
theorem content_any (s : ByteArray) (w : World) (hs : s.size ≤ 4000000) : Calls Tryz.prog 132 #[.string s] w fun e w' => e = .returned (.string (strOfNums (contL (byteL s)))) ∧ Below w.heap.size w w' := by
  have UN := kd (unescape_any s w hs)
  unfold unescV at UN
  have E := kd (show contL (byteL s) = (unescL (byteL s)).1 from rfl)
  generalize unescL (byteL s) = R at *
  generalize contL (byteL s) = C at *
  obtain ⟨r1, r2, r3⟩ := R
  go_enter Tryz.func132, Tryz.ntmps132
  go_wp2_with (go_at_call 18; refine UN.out.mono ?_; rintro e w1 ⟨rfl, hb⟩; have B1 := kd hb; clear hb)
  go_ret
  exact ⟨by rw [E.out]; rfl, B1.out⟩
def wrV : Option Nat → Value
  | none => .tuple #[.int .i64 0, .bool false]
  | some i => .tuple #[.int .i64 i, .bool true]
theorem wrong_any (w : World) (b a e : Nat) (k : Int) (s : ByteArray) (hr : Row w b 84 [.string s, .int .i64 a]) (he : e ≤ s.size) (hs : s.size ≤ 4000000) (ha : a ≤ s.size) (hC : CLS w) :
    Calls Tryz.prog 131 #[.pointer (some ⟨b, 0, none⟩), .int .i64 e, .int .i64 k] w fun r w' => r = .returned (wrV (wrongL ((byteL s).take e) k a)) ∧ Below w.heap.size w w' := by
  have HL := kd (byteL_len s)
  have HB := kd (byteL_by s)
  have HR := kd hr; have HC := kd hC
  have ZL : (byteL (s.extract 0 e)) = (byteL s).take e := by rw [byteL_extract, List.drop_zero, Nat.sub_zero]
  have ZS : (s.extract 0 e).size = e := by rw [← byteL_len, ZL, List.length_take, byteL_len]; omega
  have EY := kd (fun i (h : i < e) w h2 => escat_yes (s.extract 0 e) i w (by omega) (by omega) h2)
  have EN := kd (fun i (h : i < e) w h2 => escat_no (s.extract 0 e) i w (by omega) (by omega) h2)
  rw [ZL] at EY EN
  have RE := kd (show wrongL ((byteL s).take e) k a = wrongN ((byteL s).take e) k (e + 1) a by unfold wrongL; rw [List.length_take, byteL_len, Nat.min_eq_left he])
  have ZE := kd (show ((byteL s).take e).length = e by rw [List.length_take, byteL_len]; omega)
  have GT := kd (fun i (h : i < e) => show ((byteL s).take e).getD i 0 = (byteL s).getD i 0 by
    rw [List.getD_eq_getElem?_getD, List.getD_eq_getElem?_getD, List.getElem?_take, if_pos h])
  generalize wrongL ((byteL s).take e) k a = R at *
  generalize (byteL s).take e = Z at *
  obtain ⟨X, hX⟩ : ∃ X, byteL s = X := ⟨_, rfl⟩
  have HX := kd hX
  rw [hX] at HL HB GT
  clear hX ZL ZS hC
  have k1 : w.cell? ⟨b, 1, none⟩ = some (.int .i64 a) := hr.cell 1
  clear hr
  go_enter Tryz.func131, Tryz.ntmps131
  go_wp2_with fail
  clear k1
  go_loopw [8] (fun v wr => ∃ (i f : Nat), i ≤ s.size ∧ v = .int .i64 i ∧ e + 1 ≤ f + i ∧ Hid (R = wrongN Z k f i) ∧ Hid (Below w.heap.size w wr)) (fun v _ => e - (intOf v).toNat)
  case atStart => exact ⟨a, e + 1, ha, rfl, by omega, RE, kd (Below.refl _ _)⟩
  case round =>
    clear RE
    obtain ⟨i, f, hi, rfl, hf, RE, BW⟩ := hrel
    by_cases hlt : i < e
    · obtain ⟨f, rfl⟩ : ∃ g, f = g + 1 := ⟨f - 1, by omega⟩
      have hd : decide ((i : Int) < (e : Int)) = true := by simp; omega
      have R0 := HR.out.below BW.out
      have k0 : wr.cell? ⟨b, 0, none⟩ = some (.string s) := R0.cell 0
      have d1 := fun w => idx_str s (i := i) (by omega) (z := (i : Int)) rfl w
      have hx2 := HB.out _ (getD_mem (l := X) (i := i) (by rw [HL.out]; omega))
      rw [HX.out] at d1
      have ST := kd (show R = if inC k (X.getD i 0) = true then wrongN Z k f (i + 1) else if escAt Z i < 0 ∨ isCtl (escAt Z i) = true then some i else wrongN Z k f (i + 3) by
        rw [RE.out, wrongN_step, if_neg (by rw [ZE.out]; omega), GT.out i hlt])
      have IC := kd (fun w1 (h : Below wr.heap.size wr w1) => inclass_any (X.getD i 0) k w1 hx2.1 hx2.2 (HC.out.below (bthen BW.out h)))
      have U4 := kd (show 0 ≤ escAt Z i → i + 3 ≤ e from fun h => by
        unfold escAt at h
        split at h
        · omega
        · rename_i h2; rw [not_or] at h2; have := h2.1; rw [ZE.out] at this; omega)
      have EN2 := kd (fun w h => EN.out i hlt w h)
      have EY2 := kd (fun w h => EY.out i hlt w h)
      generalize escAt Z i = ec at *
      generalize X.getD i 0 = c at *
      have es : (e : Int) ≤ (s.size : Int) := by omega
      clear R0 RE GT
      go_wp2_with fail
      refine (IC.out _ (by first | exact Below.refl _ _ | exact (Below.refl _ _).drew)).mono ?_
      rintro e1 w1 ⟨rfl, hb⟩
      have B1 := kd (bthen BW.out hb)
      clear hb IC k0
      have R1 := HR.out.below B1.out
      have k0 : w1.cell? ⟨b, 0, none⟩ = some (.string s) := R1.cell 0
      clear R1
      cases hp : inC k c with
      | true =>
        rw [hp] at ST
        have E := kd (show R = wrongN Z k f (i + 1) from ST.out)
        clear ST hp EY2 EN2
        go_wp2_with fail
        go_roundw
        case rel => exact ⟨i + 1, f, by omega, by go_num, by omega, E, B1⟩
        case measure => simp [intOf]; omega
      | false =>
        rw [hp] at ST
        have S2 := kd (show R = if ec < 0 ∨ isCtl ec = true then some i else wrongN Z k f (i + 3) from ST.out)
        clear ST hp
        by_cases hn : ec < 0
        · have E := kd (show R = some i by rw [S2.out, if_pos (.inl hn)])
          have EI := kd (fun w => EN2.out w hn)
          clear S2 EY2 EN2 hn U4
          go_wp2_with (go_at_call 55; refine (EI.out _).mono ?_; rintro e w2 ⟨⟨x1, rfl⟩, rfl⟩)
          go_ret2
          exact ⟨by rw [E.out]; rfl, B1.out⟩
        · replace hn : 0 ≤ ec := by omega
          have i3 := U4.out hn
          have EI := kd (fun w => EY2.out w hn)
          have CT := kd (fun w => adctl_any ec w)
          have S3 := kd (show isCtl ec = true → R = some i from fun h => by rw [S2.out, if_pos (.inr h)])
          have S4 := kd (show isCtl ec = false → R = wrongN Z k f (i + 3) from fun h => by rw [S2.out, if_neg]; rw [h]; simp; omega)
          clear S2 EY2 EN2 hn U4
          cases hc : isCtl ec with
          | true =>
            rw [hc] at CT
            have E := kd (S3.out hc)
            clear hc S3 S4
            go_wp2_with (first | (go_at_call 55; refine (EI.out _).mono ?_; rintro e w2 ⟨rfl, rfl⟩) | (go_at_call 152; refine (CT.out _).mono ?_; rintro e w2 ⟨rfl, rfl⟩))
            go_ret2
            exact ⟨by rw [E.out]; rfl, B1.out⟩
          | false =>
            rw [hc] at CT
            have E := kd (S4.out hc)
            clear hc S3 S4
            go_wp2_with (first | (go_at_call 55; refine (EI.out _).mono ?_; rintro e w2 ⟨rfl, rfl⟩) | (go_at_call 152; refine (CT.out _).mono ?_; rintro e w2 ⟨rfl, rfl⟩))
            go_roundw
            case rel => exact ⟨i + 3, f, by omega, by go_num, by omega, E, B1⟩
            case measure => simp [intOf]; omega
    · have hd : decide ((i : Int) < (e : Int)) = false := by simp; omega
      have E := kd (show R = none by rw [RE.out, wrongN_end (by rw [ZE.out]; omega)])
      go_wp2_with fail
      go_ret2
      exact ⟨by rw [E.out]; rfl, BW.out⟩
def hostV : Option (List Int) → Value
  | none => .tuple #[.string ⟨#[]⟩, .bool false]
  | some h => .tuple #[.string (strOfNums h), .bool true]
theorem host_str (g : List Int) : ((⟨#[91]⟩ : ByteArray) ++ strOfNums g ++ ⟨#[93]⟩) = strOfNums ([91] ++ g ++ [93]) := by rw [← str_app, ← str_app]; rfl
theorem ret_host {a : ByteArray} {R : Option (List Int)} {h : List Int} (hR : R = some h) (ha : a = strOfNums h) : Ending.returned (.tuple #[.string a, .bool true]) = .returned (hostV R) := by subst hR; subst ha; rfl
theorem ret_hno {R : Option (List Int)} (hR : R = none) : Ending.returned (.tuple #[.string ⟨#[]⟩, .bool false]) = .returned (hostV R) := by subst hR; rfl
theorem adhost_any (s : ByteArray) (w : World) (hs : s.size ≤ 4000000) (hm : GM w) (hP : PT w) : Calls Tryz.prog 20 #[.string s] w fun e w' => e = .returned (hostV (hostL (byteL s))) ∧ Below w.heap.size w w' := by
  have HL := byteL_len s
  have HG := kd hm; have HP := kd hP
  clear hm hP
  have RE := kd (show hostL (byteL s) = if 2 ≤ (byteL s).length ∧ (byteL s).getD 0 0 = 91 ∧ (byteL s).getD ((byteL s).length - 1) 0 = 93 then (groupsL (subL (byteL s) 1 ((byteL s).length - 1))).map fun g => [91] ++ g ++ [93]
    else if numbersL (byteL s) = true then some (byteL s)
    else if namedL (byteL s) = true then some (lowS (byteL s))
    else none from rfl)
  rw [HL] at RE
  have NB := kd (fun w h1 h2 => numbers_any s w h1 h2)
  have ND := kd (fun w => adnamed_any s w hs)
  have LW := kd (fun w => adlower_any s w hs)
  generalize hostL (byteL s) = R at *
  by_cases hB : 2 ≤ s.size ∧ (byteL s).getD 0 0 = 91 ∧ (byteL s).getD (s.size - 1) 0 = 93
  · have E := kd (show R = _ from RE.out.trans (if_pos hB))
    obtain ⟨h2, h91, h93⟩ := hB
    have d1 : decide ((2 : Int) ≤ (s.size : Int)) = true := by simp; omega
    have j0 := fun w => idx_str s (i := 0) (by omega) (z := 0) rfl w
    have j1 := fun w => idx_str s (i := s.size - 1) (by omega) (z := (s.size : Int) - 1) (by omega) w
    rw [h91] at j0
    rw [h93] at j1
    have ZL : byteL (s.extract 1 (s.size - 1)) = subL (byteL s) 1 (s.size - 1) := byteL_extract s 1 (s.size - 1)
    have ZS : (s.extract 1 (s.size - 1)).size ≤ 4000000 := by
      rw [← byteL_len, ZL]; have := (subL_sub (byteL s) 1 (s.size - 1)).length_le; omega
    have GR := kd (fun w h => groups_any (s.extract 1 (s.size - 1)) w ZS h)
    rw [ZL] at GR
    have GLn := kd (fun g (h : groupsL (subL (byteL s) 1 (s.size - 1)) = some g) => show g.length ≤ 40 from by
      have h1 := groups_idem h
      unfold groupsL at h1
      split at h1
      · cases h1
      · omega)
    generalize groupsL (subL (byteL s) 1 (s.size - 1)) = G at *
    have i1 : (1 : Int) ≤ (s.size : Int) - 1 := by omega
    have i2 : (s.size : Int) - 1 ≤ (s.size : Int) := by omega
    have i3 : (0 : Int) ≤ (s.size : Int) - 1 := by omega
    have e1 : ((s.size : Int) - 1).toNat = s.size - 1 := by omega
    clear NB ND LW RE ZL ZS h91 h93 HL
    go_enter Tryz.func20, Tryz.ntmps20
    go_wp2_with fail
    refine (GR.out w HG.out).mono ?_
    intro e w1 hg
    unfold GrsP at hg
    obtain ⟨hb, hg⟩ := hg
    have B1 := kd hb
    clear hb GR
    cases hG : G with
    | none =>
      rw [hG] at hg E
      obtain ⟨j, rfl⟩ := hg
      go_wp2_with fail
      go_ret2
      exact ⟨ret_hno E.out, B1.out⟩
    | some g =>
      have gl := GLn.out g hG
      rw [hG] at hg E
      replace hg : e = .returned (.tuple #[.string (strOfNums g), .bool true]) := hg
      subst hg
      have gs := num_size g
      have k1 : ¬ 9223372036854775807 < 1 + (strOfNums g).size := by omega
      have k2 : ¬ 9223372036854775807 < 1 + (strOfNums g).size + 1 := by omega
      clear gl GLn hG
      go_wp2_with fail
      go_ret2
      exact ⟨ret_host E.out (host_str g), B1.out⟩
  have E0 := kd (RE.out.trans (if_neg hB))
  clear RE
  have NB2 := kd (NB.out w HG.out HP.out)
  have HN := kd (str_byteL s)
  have IDX := kd (fun (i : Nat) (h : i < s.size) (z : Int) (hz : z = i) (w : World) => idx_str s h hz w)
  have LWS := kd LW.out
  clear NB LW
  generalize byteL s = X at *
  generalize numbersL X = b1 at *
  generalize namedL X = b2 at *
  have hB2 : s.size < 2 ∨ (2 ≤ s.size ∧ X.getD 0 0 ≠ 91) ∨ (2 ≤ s.size ∧ X.getD 0 0 = 91 ∧ X.getD (s.size - 1) 0 ≠ 93) := by
    by_cases h1 : s.size < 2
    · exact .inl h1
    · by_cases h2 : X.getD 0 0 = 91
      · exact .inr (.inr ⟨by omega, h2, fun h => hB ⟨by omega, h2, h⟩⟩)
      · exact .inr (.inl ⟨by omega, h2⟩)
  clear hB HL
  rcases hB2 with h1 | ⟨h1, h2⟩ | ⟨h1, h2, h3⟩
  case' inl => have d1 : decide ((2 : Int) ≤ (s.size : Int)) = false := by simp; omega
  case' inr.inl =>
    have d1 : decide ((2 : Int) ≤ (s.size : Int)) = true := by simp; omega
    have j0 := IDX.out 0 (by omega) 0 rfl
    generalize X.getD 0 0 = c0 at *
    have q0 : (c0 == 91) = false := by simpa using h2
    clear h2
  case' inr.inr =>
    have d1 : decide ((2 : Int) ≤ (s.size : Int)) = true := by simp; omega
    have j0 := IDX.out 0 (by omega) 0 rfl
    have j1 := IDX.out (s.size - 1) (by omega) ((s.size : Int) - 1) (by omega)
    rw [h2] at j0
    generalize X.getD (s.size - 1) 0 = c1 at *
    have q1 : (c1 == 93) = false := by simpa using h3
    clear h2 h3
  all_goals
    clear IDX
    cases b1
    case true =>
      have E1 := kd (show R = some X from E0.out)
      go_enter Tryz.func20, Tryz.ntmps20
      go_wp2_with (go_at_call 58; refine NB2.out.mono ?_; rintro e w1 ⟨rfl, hb⟩; have B1 := kd hb; clear hb)
      go_ret2
      exact ⟨ret_host E1.out HN.out.symm, B1.out⟩
    have E1 := kd (show R = if b2 = true then some (lowS X) else none from E0.out)
    cases b2
    case true =>
      have E2 := kd (show R = some (lowS X) from E1.out)
      go_enter Tryz.func20, Tryz.ntmps20
      go_wp2_with (first | (go_at_call 58; refine NB2.out.mono ?_; rintro e w1 ⟨rfl, hb⟩; have B1 := kd hb; clear hb) | (go_at_call 59; refine (ND.out _).mono ?_; rintro e w2 ⟨rfl, hb⟩; have B2 := kd (bthen B1.out hb); clear hb) | (go_at_call 60; refine (LWS.out _).mono ?_; rintro e w3 ⟨rfl, hb⟩; have B3 := kd (bthen B2.out hb); clear hb))
      go_ret2
      exact ⟨ret_host E2.out rfl, B3.out⟩
    have E2 := kd (show R = none from E1.out)
    go_enter Tryz.func20, Tryz.ntmps20
    go_wp2_with (first | (go_at_call 58; refine NB2.out.mono ?_; rintro e w1 ⟨rfl, hb⟩; have B1 := kd hb; clear hb) | (go_at_call 59; refine (ND.out _).mono ?_; rintro e w2 ⟨rfl, hb⟩; have B2 := kd (bthen B1.out hb); clear hb))
    go_ret2
    exact ⟨ret_hno E2.out, B2.out⟩
open Go.RowKit Go.Shelf

def Asc7 (s : ByteArray) : Prop := ∀ (j : Nat) (b : UInt8), s.data.toList[j]? = some b → b.toNat < 128
theorem Asc7.at {s : ByteArray} (h : Asc7 s) {i : Nat} (hi : i < s.size) : (s[i]'hi).toNat < 128 := h i _ (Lib.data_getElem? s i hi)
theorem get_get (s : ByteArray) (k : Nat) (h : k < s.size) : s.get! k = s[k]'h := by
  simp [ByteArray.get!, getElem!_pos, h]
  rfl
theorem decode_skip (s : ByteArray) (i : Nat) (h : i < s.size) (ha : 128 ≤ (s[i]'h).toNat) : ∀ j, i ≤ j → j < i + (Utf8.decode s i).2 → ∃ hj : j < s.size, 128 ≤ (s[j]'hj).toNat := by
  have c : ∀ k, (decide (i + k < s.size) && (s.get! (i + k)).toNat / 64 == 2) = true → ∃ hj : i + k < s.size, 128 ≤ (s[i + k]'hj).toNat := fun k hk => by
    rw [Bool.and_eq_true, decide_eq_true_eq, beq_iff_eq] at hk
    refine ⟨hk.1, ?_⟩
    rw [← get_get s _ hk.1]
    omega
  have base : ∀ j, i ≤ j → j < i + 1 → ∃ hj : j < s.size, 128 ≤ (s[j]'hj).toNat := fun j h1 h2 => by
    obtain rfl : j = i := by omega
    exact ⟨h, ha⟩
  have two : ∀ k j, (∀ j, i ≤ j → j < i + k → ∃ hj : j < s.size, 128 ≤ (s[j]'hj).toNat) → (∃ hj : i + k < s.size, 128 ≤ (s[i + k]'hj).toNat) → i ≤ j → j < i + (k + 1) → ∃ hj : j < s.size, 128 ≤ (s[j]'hj).toNat := fun k j h1 h2 h3 h4 => by
    by_cases hj : j < i + k
    · exact h1 j h3 hj
    · obtain rfl : j = i + k := by omega
      exact h2
  simp only [Utf8.decode]
  split
  · exact base
  · split
    · rename_i h2
      rw [Bool.and_eq_true] at h2
      split
      · exact fun j h3 h4 => two 1 j base (c 1 h2.2) h3 h4
      · exact base
    · split
      · rename_i h2
        rw [Bool.and_eq_true, Bool.and_eq_true] at h2
        split
        · exact fun j h3 h4 => two 2 j (fun j h3 h4 => two 1 j base (c 1 h2.1.2) h3 h4) (c 2 h2.2) h3 h4
        · exact base
      · split
        · rename_i h2
          rw [Bool.and_eq_true, Bool.and_eq_true, Bool.and_eq_true] at h2
          split
          · exact fun j h3 h4 => two 3 j (fun j h3 h4 => two 2 j (fun j h3 h4 => two 1 j base (c 1 h2.1.1.2) h3 h4) (c 2 h2.1.2) h3 h4) (c 3 h2.2) h3 h4
          · exact base
        · exact base
theorem encode_high {r : Int} (h : 128 ≤ r) : 2 ≤ (Utf8.encode r).size ∧ (Utf8.encode r).size ≤ 4 ∧ ∀ b ∈ (Utf8.encode r).data.toList, 128 ≤ b.toNat := by
  obtain ⟨c, hc⟩ : ∃ c, (if Utf8.valid r = true then r.toNat else Utf8.runeError) = c := ⟨_, rfl⟩
  have h1 : 128 ≤ c ∧ c < 1114112 := by
    rw [← hc]
    split
    · rename_i hv
      unfold Utf8.valid at hv
      simp at hv
      omega
    · unfold Utf8.runeError; omega
  unfold Utf8.encode
  simp only [hc]
  have hb : ∀ n : Nat, n < 256 → 128 ≤ n → 128 ≤ (UInt8.ofNat n).toNat := fun n h1 h2 => by
    rw [UInt8.toNat_ofNat']; omega
  rw [if_neg (by omega)]
  by_cases h2 : c < 2048
  · rw [if_pos h2]
    refine ⟨by show 2 ≤ 2; omega, by show 2 ≤ 4; omega, ?_⟩
    intro b hb2
    simp only [List.mem_cons, List.not_mem_nil, or_false] at hb2
    rcases hb2 with rfl | rfl
    · exact hb _ (by omega) (by omega)
    · exact hb _ (by omega) (by omega)
  · rw [if_neg h2]
    by_cases h3 : c < 65536
    · rw [if_pos h3]
      refine ⟨by show 2 ≤ 3; omega, by show 3 ≤ 4; omega, ?_⟩
      intro b hb2
      simp only [List.mem_cons, List.not_mem_nil, or_false] at hb2
      rcases hb2 with rfl | rfl | rfl
      · exact hb _ (by omega) (by omega)
      · exact hb _ (by omega) (by omega)
      · exact hb _ (by omega) (by omega)
    · rw [if_neg h3]
      refine ⟨by show 2 ≤ 4; omega, by show 4 ≤ 4; omega, ?_⟩
      intro b hb2
      simp only [List.mem_cons, List.not_mem_nil, or_false] at hb2
      rcases hb2 with rfl | rfl | rfl | rfl
      · exact hb _ (by omega) (by omega)
      · exact hb _ (by omega) (by omega)
      · exact hb _ (by omega) (by omega)
      · exact hb _ (by omega) (by omega)
theorem idx_no {s : ByteArray} {c : UInt8} (h : ∀ (j : Nat) (b : UInt8), s.data.toList[j]? = some b → b.toNat < 128) (hc : 128 ≤ c.toNat) : Lib.indexByte s.data.toList c = -1 := by
  have h1 : ¬ 0 ≤ Lib.indexByte s.data.toList c := fun h2 => by
    obtain ⟨j, hj⟩ := List.mem_iff_getElem?.1 ((idx_mem c _).1 h2)
    have := h j c hj
    omega
  have h2 : -1 ≤ Lib.indexByte s.data.toList c := by rw [indexByte_bl]; split <;> omega
  omega
theorem Asc7.extract {s : ByteArray} (h : Asc7 s) (a b : Nat) : Asc7 (s.extract a b) := fun j x hj => by
  have e : (s.extract a b).data.toList = (s.data.toList.drop a).take (b - a) := by rw [ByteArray.data_extract, Array.toList_extract]
  rw [e, List.getElem?_take] at hj
  split at hj
  · rw [List.getElem?_drop] at hj; exact h _ x hj
  · cases hj
theorem idxbyte_no (s : ByteArray) (c : UInt8) (w : World) (h : Asc7 s) (hc : 128 ≤ c.toNat) : Calls Tryz.prog 66 #[.string s, .int .u8 (c.toNat : Int)] w fun e w' => e = .returned (.int .i64 (-1)) ∧ w' = w :=
  (Tryz.strings_IndexByte s (c.toNat : Int) w).mono fun e w' h1 => ⟨by rw [h1.1, Lib.byte_back, idx_no h hc], h1.2⟩
theorem indexrune_high (s : ByteArray) (r : Int) (w : World) (hs : Asc7 s) (h2 : 1 ≤ s.size) (h8 : s.size ≤ 1000) (hr : 128 ≤ r) (hr2 : r ≤ 2147483647) : Calls Tryz.prog 168 #[.string s, .int .i32 r] w fun e w' => e = .returned (.int .i64 (-1)) ∧ Below w.heap.size w w' := by
  have HA := kd hs
  clear hs
  have r0 : decide (0 ≤ r) = true := decide_eq_true (by omega)
  have r1 : decide (r < 128) = false := decide_eq_false (by omega)
  by_cases he : r = 65533
  · subst he
    clear hr hr2 r0 r1
    go_enter Tryz.func168, Tryz.ntmps168
    go_wp2
    go_loopg [5, 6] s.size (fun g _ _ wx => ∃ i : Nat, i + g = s.size ∧ wx = w.iter s i)
    case atStart => exact ⟨0, by omega, rfl⟩
    case round =>
      obtain ⟨i, hig, rfl⟩ := hrel
      cases gk with
      | zero =>
        obtain rfl : i = s.size := by omega
        have hnx := run_next_end (P := Tryz.prog) w s s.size
        go_wp2
        go_ret
        exact ⟨rfl, (Below.refl _ _).alloc (Nat.le_refl _) _⟩
      | succ g =>
        have hi : i < s.size := by omega
        have hx128 := HA.out.at hi
        obtain ⟨x, hx⟩ : ∃ x : UInt8, s[i]'hi = x := ⟨_, rfl⟩
        rw [hx] at hx128
        have hnx := fun ty => run_next_ascii (P := Tryz.prog) w s i ty hi (by rw [hx]; exact hx128)
        rw [hx] at hnx
        clear hx
        have hne : ((x.toNat : Int) == 65533) = false := by simp; omega
        go_wp2
        go_roundg g
        case measure => omega
        case rel => exact ⟨i + 1, by omega, rfl⟩
  · have q0 : (r == 65533) = false := by simpa using he
    have VR := kd (fun w => (Tryz.utf8_ValidRune r w).mono (R' := fun e w' => e = .returned (.bool (Lib.validRune r)) ∧ w = w') fun e w' h => ⟨h.1, h.2.symm⟩)
    cases hv : Lib.validRune r with
    | false =>
      rw [hv] at VR
      go_enter Tryz.func168, Tryz.ntmps168
      go_wp2_with (go_at_call 194; refine (VR.out _).mono ?_; rintro e w' ⟨rfl, rfl⟩)
      go_ret
      exact ⟨rfl, Below.refl _ _⟩
    | true =>
      rw [hv] at VR
      obtain ⟨e2, e4, eb⟩ := encode_high hr
      obtain ⟨rs, hrs⟩ : ∃ rs, Utf8.encode r = rs := ⟨_, rfl⟩
      have cvt : ∀ w, (convert 21 9 (.int .i32 r)).run Tryz.prog w = .ok (.string rs) w := fun w => by
        rw [← hrs]
        simp [convert, run_underlying Tryz.underlying21, run_underlying Tryz.underlying9, Conv.intToString, Sem.run_pure]
      rw [hrs] at e2 e4 eb
      clear hrs
      have EB := kd eb
      clear eb hv
      go_enter Tryz.func168, Tryz.ntmps168
      go_wp2_with (go_at_call 194; refine (VR.out _).mono ?_; rintro e w' ⟨rfl, rfl⟩)
      go_step3
      go_wp2_with fail
      go_loopw [9] (fun v wr => v = .int .i64 ((rs.size : Int) - 1) ∧ Hid (Below w.heap.size w wr)) (fun _ _ => 0)
      case atStart => exact ⟨rfl, kd (Below.refl _ _)⟩
      case round =>
        obtain ⟨rfl, BW⟩ := hrel
        by_cases hlt : rs.size - 1 < s.size
        · have hd : decide ((rs.size : Int) - 1 < (s.size : Int)) = true := by simp; omega
          have sx := HA.out.at hlt
          have rx := EB.out (rs[rs.size - 1]'(by omega)) (List.mem_of_getElem? (Lib.data_getElem? rs (rs.size - 1) (by omega)))
          have d1 := fun w => idx_str s (i := rs.size - 1) hlt (z := (rs.size : Int) - 1) (by omega) w
          have d2 := fun w => idx_str rs (i := rs.size - 1) (by omega) (z := (rs.size : Int) - 1) (by omega) w
          rw [← byteL_at s hlt] at d1
          rw [← byteL_at rs (show rs.size - 1 < rs.size by omega)] at d2
          generalize s[rs.size - 1] = xa at *
          generalize rs[rs.size - 1] = xb at *
          have hne : ((xa.toNat : Int) == (xb.toNat : Int)) = false := by simp; omega
          have IB := kd (fun w => (idxbyte_no (s.extract rs.size s.size) xb w (HA.out.extract _ _) rx).mono (R' := fun e w' => e = .returned (.int .i64 (-1)) ∧ ∃ q, w' = w.drewN q) fun e w' h => ⟨h.1, 0, h.2⟩)
          have i1 : (rs.size : Int) ≤ (s.size : Int) := by omega
          have i2 : (0 : Int) ≤ (rs.size : Int) := by omega
          have i3 : IntKind.i64.wrap (rs.size : Int) = (rs.size : Int) := IntWalk.i64_in _ (by omega)
          clear sx rx EB
          go_wp2_with fail
          go_step3
          go_wp2_with fail
          go_quiet (fail)
          have B2 := kd (bthen BW.out (below_drewN wr nq))
          generalize wr.drewN nq = w2 at *
          go_wp2_with fail
          go_quiet ((go_at_call 66; exact Calls.quiet_of (IB.out _)))
          go_wp2_with fail
          rw [Exit.noGoto_ret]
          simp +zetaDelta only [Exit.noGoto_ret, Exit.inBlock, Exit.then]
          go_ret
          exact ⟨rfl, bthen B2.out (below_drewN _ _)⟩
        · have hd : decide ((rs.size : Int) - 1 < (s.size : Int)) = false := by simp; omega
          go_wp2_with fail
          rw [Exit.noGoto_ret]
          go_ret
          exact ⟨rfl, BW.out⟩
def NoStop (s st : ByteArray) (i : Nat) : Prop := Lib.NoAny s.data.toList st.data.toList i
theorem NoStop.skip {s st : ByteArray} {i k : Nat} (hst : Asc7 st) (h : NoStop s st i) (hk : ∀ j, i ≤ j → j < i + k → ∃ hj : j < s.size, 128 ≤ (s[j]'hj).toNat) : NoStop s st (i + k) := fun j b hj hb => by
  by_cases h1 : j < i
  · exact h j b h1 hb
  · obtain ⟨h2, h3⟩ := hk j (by omega) hj
    have e := Lib.data_getElem? s j h2
    rw [hb] at e
    injection e with e
    subst e
    rw [Bool.eq_false_iff]
    intro hc
    obtain ⟨q, hq⟩ := List.mem_iff_getElem?.1 (List.contains_iff_mem.1 hc)
    have := hst q _ hq
    omega
theorem indexany_short (s st : ByteArray) (w : World) (h2 : 2 ≤ st.size) (hst : st.size ≤ 1000) (h8 : s.size ≤ 8) (hA : Asc7 st) : Calls Tryz.prog 135 #[.string s, .string st] w fun e w' => e = .returned (.int .i64 (Lib.indexAny s.data.toList st.data.toList)) ∧ Below w.heap.size w w' := by
  have HA := kd hA
  clear hA
  have hemp : st.toList.isEmpty = false := by
    rw [Lib.toList_data]
    cases h : st.data.toList with
    | nil => have := Lib.size_eq st; rw [h, List.length_nil] at this; omega
    | cons _ _ => rfl
  have hn1 : ((st.size : Int) == 1) = false := beq_eq_false_iff_ne.2 (by omega)
  have h8z : decide ((8 : Int) < (s.size : Int)) = false := decide_eq_false (by omega)
  have SU := kd (fun w => (Tryz.strings_shouldUseASCIISet (s.size : Int) w).mono (R' := fun e w' => e = .returned (.bool false) ∧ w = w') fun e w' h => ⟨by rw [h.1, h8z], h.2.symm⟩)
  go_enter Tryz.func135, Tryz.ntmps135
  go_wp2_with (go_at_call 169; refine (SU.out _).mono ?_; rintro e w' ⟨rfl, rfl⟩)
  go_loopg [9, 10] s.size (fun g _ _ wx => ∃ i : Nat, i + g = s.size ∧ Hid (wx.heap[w.heap.size]? = some (.stringIter s i)) ∧ Hid (Below w.heap.size w wx) ∧ Hid (NoStop s st i))
  case atStart => exact ⟨0, by omega, kd (World.iter_heap w s 0), kd ((Below.refl _ _).alloc (Nat.le_refl _) _), kd (Lib.NoAny.zero _ _)⟩
  case round =>
    obtain ⟨i, hig, IT, BW, NS⟩ := hrel
    cases gk with
    | zero =>
      obtain rfl : i = s.size := by omega
      have hnx := fun ty => Lib.run_next_end_at (P := Tryz.prog) wr w.heap.size s s.size ty IT.out (by omega)
      go_wp2
      go_ret
      exact ⟨by rw [Lib.indexAny_none (by rw [← Lib.size_eq]; exact NS.out)]; rfl, BW.out⟩
    | succ g =>
      have hi : i < s.size := by omega
      have SX := kd (Lib.data_getElem? s i hi)
      by_cases hx : (s[i]'hi).toNat < 128
      · have hnx := fun ty => Lib.run_next_ascii_at (P := Tryz.prog) wr w.heap.size s i ty IT.out hi hx
        have B2 := kd (Lib.below_iterAt BW.out (Nat.le_refl _) s (i + 1))
        have I2 := kd (Lib.iterAt_heap wr w.heap.size s i (i + 1) IT.out)
        generalize s[i] = x at *
        have hcon := Lib.contains_iff_indexByte st.data.toList x
        have IR := kd (fun w => (Tryz.strings_IndexRune_ascii st (x.toNat : Int) w (by omega) (by omega)).mono (R' := fun e w' => e = .returned (.int .i64 (Lib.indexByte st.data.toList x)) ∧ w = w') fun e w' h => ⟨by rw [h.1, Lib.byte_back], h.2.symm⟩)
        have HIT := kd (fun h => Lib.indexAny_hit NS.out SX.out h)
        have MIS := kd (fun h => Lib.NoAny.succ NS.out SX.out h)
        generalize wr.iterAt w.heap.size s (i + 1) = w2 at *
        cases hin : st.data.toList.contains x with
        | true =>
          rw [hin] at hcon
          have hge : decide ((0 : Int) ≤ Lib.indexByte st.data.toList x) = true := hcon.symm
          have E := kd (HIT.out hin)
          clear hcon hin HIT MIS
          generalize Lib.indexByte st.data.toList x = z at *
          go_wp2_with (go_at_call 168; refine (IR.out _).mono ?_; rintro e w' ⟨rfl, rfl⟩)
          go_ret
          exact ⟨by rw [E.out]; rfl, B2.out⟩
        | false =>
          rw [hin] at hcon
          have hge : decide ((0 : Int) ≤ Lib.indexByte st.data.toList x) = false := hcon.symm
          have E := kd (MIS.out hin)
          clear hcon hin HIT MIS
          generalize Lib.indexByte st.data.toList x = z at *
          go_wp2_with (go_at_call 168; refine (IR.out _).mono ?_; rintro e w' ⟨rfl, rfl⟩)
          go_roundg g
          case measure => omega
          case rel => exact ⟨i + 1, by omega, I2, B2, E⟩
      · have hx2 : 128 ≤ (s[i]'hi).toNat := by omega
        have hnx := fun ty => Lib.run_next_any_at (P := Tryz.prog) wr w.heap.size s i ty IT.out hi
        obtain ⟨dh1, dh2⟩ := decode_high s i hi hx2
        have dh3 := decode_le s i
        have NX := kd (NoStop.skip HA.out NS.out (decode_skip s i hi hx2))
        have LE : i + (Utf8.decode s i).2 ≤ s.size := by
          obtain ⟨h1, _⟩ := decode_skip s i hi hx2 (i + (Utf8.decode s i).2 - 1) (by omega) (by omega)
          omega
        have B2 := kd (Lib.below_iterAt BW.out (Nat.le_refl _) s (i + (Utf8.decode s i).2))
        have I2 := kd (Lib.iterAt_heap wr w.heap.size s i (i + (Utf8.decode s i).2) IT.out)
        generalize wr.iterAt w.heap.size s (i + (Utf8.decode s i).2) = w2 at *
        generalize (Utf8.decode s i).1 = r at *
        generalize (Utf8.decode s i).2 = k at *
        have IR := kd (fun w => indexrune_high st (r : Int) w HA.out (by omega) (by omega) (by omega) (by omega))
        clear hx hx2 SX
        go_wp2_with (go_at_call 168; refine (IR.out _).mono ?_; rintro e w3 ⟨rfl, hb⟩; have B3 := kd (bthen B2.out hb); have I3 := kd ((hb.block _ (lt_of_block I2.out)).trans I2.out); clear hb)
        go_roundg (s.size - (i + k))
        case measure => omega
        case rel => exact ⟨i + k, by omega, I3, B3, NX⟩
theorem zero256 (w : World) : (zeroValue (159)).run Tryz.prog w = .ok (.agg (Array.replicate 256 (.bool false))) w := by kernel_rfl
theorem indexany_any (s st : ByteArray) (w : World) (hs : s.size ≤ 4000000) (h1 : 1 ≤ st.size) (h2 : st.size ≤ 1000) (hA : Asc7 st) : Calls Tryz.prog 135 #[.string s, .string st] w fun e w' => e = .returned (.int .i64 (if s.size ≤ untilL (byteL s) 0 (byteL st) then -1 else (untilL (byteL s) 0 (byteL st) : Int))) ∧ Below w.heap.size w w' := by
  have e0 : Lib.indexAny s.data.toList st.data.toList = if s.size ≤ untilL (byteL s) 0 (byteL st) then -1 else (untilL (byteL s) 0 (byteL st) : Int) := by
    rw [indexAny_bl, show (bl s.data.toList).length = s.size from byteL_len s]; rfl
  rw [← e0]
  by_cases h3 : st.size = 1
  · exact (Tryz.strings_IndexAny_one s st w h3 hA).mono fun e w' h => ⟨h.1, by rw [h.2]; exact Below.refl _ _⟩
  · by_cases h8 : 8 < s.size
    · exact (Tryz.strings_IndexAny_long zero256 s st w (by omega) h8 (by omega) (by omega) hA).mono fun e w' h => ⟨h.1, by
        rw [h.2]; exact ((Below.refl _ _).alloc (Nat.le_refl _) _).alloc (by rw [World.size_alloc]; omega) _⟩
    · exact indexany_short s st w (by omega) h2 (by omega) hA

theorem until_drop (X : List Int) (a : Nat) (st : List Int) : untilL X a st = a + untilL (X.drop a) 0 st := by
  unfold untilL skipTo
  rw [List.drop_zero, Nat.zero_add]
theorem until_any (s st : ByteArray) (a : Nat) (w : World) (hs : s.size ≤ 4000000) (ha : a ≤ s.size) (h1 : 1 ≤ st.size) (h2 : st.size ≤ 1000) (hA : Asc7 st) :
    Calls Tryz.prog 71 #[.agg #[.string s], .int .i64 a, .string st] w fun e w' => e = .returned (.int .i64 (untilL (byteL s) a (byteL st))) ∧ Below w.heap.size w w' := by
  have HL := byteL_len s
  have ZL : byteL (s.extract a s.size) = (byteL s).drop a := by
    rw [byteL_extract, List.take_of_length_le (by rw [List.length_drop, HL]; exact Nat.le_refl _)]
  have ZS : (s.extract a s.size).size = s.size - a := by rw [← byteL_len, ZL, List.length_drop, HL]
  have IA := kd (fun w => indexany_any (s.extract a s.size) st w (by omega) h1 h2 hA)
  have E := kd (until_drop (byteL s) a (byteL st))
  have LE := skip_le (p := fun c => !(byteL st).contains c) (xs := (byteL s).drop a) (i := 0) (Nat.zero_le _)
  have LE2 : untilL ((byteL s).drop a) 0 (byteL st) ≤ s.size - a := by
    rw [List.length_drop, HL] at LE; exact LE
  rw [ZL, ZS] at IA
  generalize untilL (byteL s) a (byteL st) = R at *
  generalize untilL ((byteL s).drop a) 0 (byteL st) = k at *
  clear ZL ZS LE HL
  have i1 : (a : Int) ≤ (s.size : Int) := by omega
  have R0 := kd (Row.new w 82 [.string s])
  have B0 := kd ((Below.refl w.heap.size w).alloc (Nat.le_refl _) (.cells #[.string s] 82))
  by_cases hk : s.size - a ≤ k
  · rw [if_pos hk] at IA
    have E2 := kd (show R = s.size by rw [E.out]; omega)
    clear E LE2 hk
    go_enter Tryz.func71, Tryz.ntmps71
    go_wp2_with (go_at_call 135; refine (IA.out _).mono ?_; rintro e w1 ⟨rfl, hb⟩; have B1 := kd (bthen B0.out hb); have R1 := kd (R0.out.below hb); clear hb; have k0 := R1.out.cell 0; simp only [List.getElem?_cons_zero] at k0)
    go_ret
    exact ⟨by rw [E2.out]; rfl, B1.out⟩
  · rw [if_neg hk] at IA
    have E2 := kd (show (R : Int) = (a : Int) + (k : Int) by rw [E.out]; omega)
    have d0 : decide ((0 : Int) ≤ (k : Int)) = true := by simp
    have kb : (k : Int) ≤ 4000000 := by omega
    clear E LE2 hk
    go_enter Tryz.func71, Tryz.ntmps71
    go_wp2_with (go_at_call 135; refine (IA.out _).mono ?_; rintro e w1 ⟨rfl, hb⟩; have B1 := kd (bthen B0.out hb); have R1 := kd (R0.out.below hb); clear hb; have k0 := R1.out.cell 0; simp only [List.getElem?_cons_zero] at k0)
    go_ret
    exact ⟨by rw [E2.out]; rfl, B1.out⟩
end Go.Proofs.YthfonniieaiocaaGreatDoor
