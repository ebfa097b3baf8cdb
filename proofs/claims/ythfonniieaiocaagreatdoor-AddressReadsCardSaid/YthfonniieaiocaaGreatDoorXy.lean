/- Contracts: the reference's rest of an address, an address without brackets. Contracts: the reference's bare, ParseAddress. Contract: the reference's ParseAddress. -/
import Derived.Test.YthfonniieaiocaaGreatDoorXv
import Derived.Test.YthfonniieaiocaaGreatDoorXq
import Derived.Test.YthfonniieaiocaaGreatDoorUx
set_option linter.unusedVariables false
set_option linter.unusedSimpArgs false
set_option maxRecDepth 100000
namespace Go.Proofs.YthfonniieaiocaaGreatDoor
open Go.RowKit

def restL (xs nm : List Int) (a e b : Nat) : Except (Nat × Int) Adr := match uriL (subL xs a e) with
  | .error q => .error (a + q.1, q.2)
  | .ok u => match parsL (xs.drop b) with
    | .error q => .error (b + q.1, q.2)
    | .ok l => .ok ⟨nm, u, l⟩
theorem rest_e1 {xs nm : List Int} {a e b n : Nat} {k : Int} (h : uriL (subL xs a e) = .error (n, k)) : restL xs nm a e b = .error (a + n, k) := by unfold restL; rw [h]
theorem rest_e2 {xs nm : List Int} {a e b n : Nat} {k : Int} {u : Uri} (h : uriL (subL xs a e) = .ok u) (h2 : parsL (xs.drop b) = .error (n, k)) : restL xs nm a e b = .error (b + n, k) := by unfold restL; rw [h]; dsimp only; rw [h2]
theorem rest_ok {xs nm : List Int} {a e b : Nat} {u : Uri} {l : List Pm} (h : uriL (subL xs a e) = .ok u) (h2 : parsL (xs.drop b) = .ok l) : restL xs nm a e b = .ok ⟨nm, u, l⟩ := by unfold restL; rw [h]; dsimp only; rw [h2]
set_option maxHeartbeats 2000000 in
theorem rrest_any (s : ByteArray) (nm : List Int) (a e b : Nat) (w : World) (h1 : a ≤ e) (h2 : e ≤ s.size) (h3 : b ≤ s.size) (hs : s.size ≤ 1024) :
    Calls Tryz.prog 89 #[.string s, .string (strOfNums nm), .int .i64 (a : Nat), .int .i64 (e : Nat), .int .i64 (b : Nat)] w (AdrP w (restL (byteL s) nm a e b)) := by
  have BAD := kd (fun w' n k (h : restL (byteL s) nm a e b = .error (n, k)) hb hk => AdrP.bad (w := w) (w' := w') h hb hk)
  have GOOD := kd (fun w' d u l v1 v2 v3 (h : restL (byteL s) nm a e b = .ok ⟨d, u, l⟩) h1 h2 h3 => AdrP.good (w := w) (w' := w') (v1 := v1) (v2 := v2) (v3 := v3) h h1 h2 h3)
  have E1 := kd (fun n k h => rest_e1 (xs := byteL s) (nm := nm) (a := a) (e := e) (b := b) (n := n) (k := k) h)
  have E2 := kd (fun n k u h h2 => rest_e2 (xs := byteL s) (nm := nm) (a := a) (e := e) (b := b) (n := n) (k := k) (u := u) h h2)
  have E3 := kd (fun u l h h2 => rest_ok (xs := byteL s) (nm := nm) (a := a) (e := e) (b := b) (u := u) (l := l) h h2)
  have PC := kd (fun w => rparse_any (s.extract a e) w)
  have PA := kd (fun w => rparams_any (s.extract b s.size) w (by rw [← byteL_len, drop_extract s b, List.length_drop, byteL_len]; omega))
  rw [show byteL (s.extract a e) = subL (byteL s) a e from byteL_extract s a e] at PC
  rw [drop_extract s b] at PA
  have UER := kd (fun n k (h : uriL (subL (byteL s) a e) = .error (n, k)) => show n ≤ 1024 from by
    have h1 := (uriL_err ((byteL_by s).sub (subL_sub (byteL s) a e)) h).2
    have h2 := (subL_sub (byteL s) a e).length_le
    rw [byteL_len] at h2
    dsimp only at h1
    omega)
  have PK := kd (pars_ok (X := (byteL s).drop b) (fun x hx => byteL_by s x (List.mem_of_mem_drop hx)) (((byteL s).drop b).length + 1) 0 [] (Nat.zero_le _) (Nat.zero_le _) (fun p hp => by cases hp))
  rw [show parsN ((byteL s).drop b) (((byteL s).drop b).length + 1) 0 [] = parsL ((byteL s).drop b) from rfl] at PK
  have DL : ((byteL s).drop b).length ≤ 1024 := by rw [List.length_drop, byteL_len]; omega
  generalize uriL (subL (byteL s) a e) = Q at *
  generalize parsL ((byteL s).drop b) = Q2 at *
  generalize AdrP w (restL (byteL s) nm a e b) = PP at *
  generalize restL (byteL s) nm a e b = R at *
  have RES := kd (fun wx h => below_row (w := w) (wx := wx) (T := 38) (zs := [.string ⟨#[]⟩, .string ⟨#[]⟩, .string ⟨#[]⟩, .string ⟨#[]⟩, .int .i64 0, .slice none 0 0, .slice none 0 0, .slice none 0 0]) h)
  have GRO := kd (fun wx w9 h hg => below_store (w := w) (wx := wx) (w9 := w9) (T := 38) (zs := [.string ⟨#[]⟩, .string ⟨#[]⟩, .string ⟨#[]⟩, .string ⟨#[]⟩, .int .i64 0, .slice none 0 0, .slice none 0 0, .slice none 0 0]) h hg)
  have WB0 := kd ((Below.refl w.heap.size w).alloc (Nat.le_refl _) (.cells ([.string ⟨#[]⟩, .string ⟨#[]⟩, .string ⟨#[]⟩, .string ⟨#[]⟩, .int .i64 0, .slice none 0 0, .slice none 0 0, .slice none 0 0] : List Value).toArray 38))
  have WBS := kd (show w.heap.size < (w.alloc (.cells ([.string ⟨#[]⟩, .string ⟨#[]⟩, .string ⟨#[]⟩, .string ⟨#[]⟩, .int .i64 0, .slice none 0 0, .slice none 0 0, .slice none 0 0] : List Value).toArray 38)).heap.size by rw [World.size_alloc]; omega)
  have REF := kd (Below.refl (w.alloc (.cells ([.string ⟨#[]⟩, .string ⟨#[]⟩, .string ⟨#[]⟩, .string ⟨#[]⟩, .int .i64 0, .slice none 0 0, .slice none 0 0, .slice none 0 0] : List Value).toArray 38)).heap.size (w.alloc (.cells ([.string ⟨#[]⟩, .string ⟨#[]⟩, .string ⟨#[]⟩, .string ⟨#[]⟩, .int .i64 0, .slice none 0 0, .slice none 0 0, .slice none 0 0] : List Value).toArray 38)))
  have i1 : (a : Int) ≤ (e : Int) := by omega
  have i2 : (e : Int) ≤ (s.size : Int) := by omega
  have i3 : (b : Int) ≤ (s.size : Int) := by omega
  go_enter Tryz.func89, Tryz.ntmps89
  go_upto_region 1 with (fail)
  generalize w.alloc (.cells #[.string ⟨#[]⟩, .string ⟨#[]⟩, .string ⟨#[]⟩, .string ⟨#[]⟩, .int .i64 0, .slice none 0 0, .slice none 0 0, .slice none 0 0] 38) = wb at *
  go_wp2_with fail
  refine (PC.out _).mono ?_
  clear PC
  cases Q with
  | error q =>
    obtain ⟨n, k⟩ := q
    rintro _ w1 ⟨rfl, hb1, hk⟩
    have E := kd (E1.out n k rfl)
    have nl : n ≤ 1024 := UER.out n k rfl
    clear UER PK
    have HK := kd hk
    have B1 := kd hb1
    have hk2 : (k != 0) = true := by simpa using hk
    clear E1 E2 E3 hb1 hk PA GOOD
    dsimp only at HK hk2
    go_upto_region 2 with (with_reducible refine wpList_storeN rfl 32 (.tmp 13) (.tmp 25) rfl [.string ⟨#[]⟩, .string ⟨#[]⟩, .string ⟨#[]⟩, .int .i64 0, .slice none 0 0, .slice none 0 0] [.string ⟨#[]⟩, .string ⟨#[]⟩, .string ⟨#[]⟩, .int .i64 0, .slice none 0 0, .slice none 0 0] rfl rfl (lenU _ _ _ _ _ _ _ _ _ _ _ _) (sizeU _ _ _ _ _ _) (u_one _ _ _ _) ?_; intro w2 R2 B2)
    have B3 := kd (bthen B1.out B2.out)
    clear R2 B2
    have RR := kd (RES.out _ B3.out)
    go_wp2_with (with_reducible refine wpList_storeG rfl 38 (.tmp 10) (.tmp 30) rfl RR.out [.string ⟨#[]⟩, .string ⟨#[]⟩, .string ⟨#[]⟩, .string ⟨#[]⟩, .int .i64 0, .slice none 0 0, .slice none 0 0, .slice none 0 0] rfl rfl (len8 _ _ _ _ _ _ _ _ _ _ _ _ _ _ _ _) (size8 _ _ _ _ _ _ _ _) (ad_one _ _ _ _ _) ?_)
    intro w9 R9 G9
    have BW9 := kd (GRO.out _ _ B3.out G9.out)
    go_wp2_with fail
    exact bodyPost_ret (results_cuv rfl _ _ _ w.heap.size [.string ⟨#[]⟩, .string ⟨#[]⟩, .string ⟨#[]⟩, .string ⟨#[]⟩, .int .i64 0, .slice none 0 0, .slice none 0 0, .slice none 0 0] _ rfl R9.out.range Tryz.underlying38 rfl (size8 _ _ _ _ _ _ _ _)) rfl (by exact BAD.out _ _ _ E.out BW9.out HK.out)
  | ok u =>
    rintro _ w1 ⟨v1, v2, rfl, x1, x2⟩
    have B1 := kd x1.bw
    obtain ⟨A1, c1, hv1⟩ := own_slice x1.o
    obtain ⟨A2, c2, hv2⟩ := own_slice x2.o
    subst hv1 hv2
    have X1 := kd x1; have X2 := kd x2
    clear x1 x2 E1
    go_upto_region 4 with (with_reducible refine wpList_storeN rfl 32 (.tmp 13) (.tmp 25) rfl [.string ⟨#[]⟩, .string ⟨#[]⟩, .string ⟨#[]⟩, .int .i64 0, .slice none 0 0, .slice none 0 0] [.string (strOfNums u.sc), .string (strOfNums u.us), .string (strOfNums u.ho), .int .i64 u.po, .slice A1 u.ps.length c1, .slice A2 u.hs.length c2] rfl rfl (lenU _ _ _ _ _ _ _ _ _ _ _ _) (sizeU _ _ _ _ _ _) (u_one _ _ _ _) ?_; intro w2 R2 B2)
    have B3 := kd (bthen B1.out B2.out)
    have Y1 := kd (X1.out.step B2.out); have Y2 := kd (X2.out.step B2.out)
    generalize w1.heap.size = ub at *
    clear B2 B1 X1 X2
    go_wp2_with fail
    refine (PA.out _).mono ?_
    clear PA
    cases Q2 with
    | error q =>
      obtain ⟨n, k⟩ := q
      rintro _ w3 ⟨rfl, hb3, hk⟩
      have E := kd (E2.out n k u rfl rfl)
      have nl := PK.out.1
      dsimp only at nl
      have nl2 : n ≤ 1024 := by omega
      clear PK DL nl UER
      have HK := kd hk
      have B4 := kd (bthen B3.out hb3)
      have hk2 : (k != 0) = true := by simpa using hk
      clear E2 E3 hb3 hk GOOD
      dsimp only at HK hk2
      have RR := kd (RES.out _ B4.out)
      go_wp2_with (with_reducible refine wpList_storeG rfl 38 (.tmp 10) (.tmp 45) rfl RR.out [.string ⟨#[]⟩, .string ⟨#[]⟩, .string ⟨#[]⟩, .string ⟨#[]⟩, .int .i64 0, .slice none 0 0, .slice none 0 0, .slice none 0 0] rfl rfl (len8 _ _ _ _ _ _ _ _ _ _ _ _ _ _ _ _) (size8 _ _ _ _ _ _ _ _) (ad_one _ _ _ _ _) ?_)
      intro w9 R9 G9
      have BW9 := kd (GRO.out _ _ B4.out G9.out)
      go_wp2_with fail
      exact bodyPost_ret (results_cuv rfl _ _ _ w.heap.size [.string ⟨#[]⟩, .string ⟨#[]⟩, .string ⟨#[]⟩, .string ⟨#[]⟩, .int .i64 0, .slice none 0 0, .slice none 0 0, .slice none 0 0] _ rfl R9.out.range Tryz.underlying38 rfl (size8 _ _ _ _ _ _ _ _)) rfl (by exact BAD.out _ _ _ E.out BW9.out HK.out)
    | ok l =>
      rintro _ w3 ⟨v3, rfl, x3, hl⟩
      obtain ⟨A3, c3, hv3⟩ := own_slice x3.o
      subst hv3
      have E := kd (E3.out u l rfl rfl)
      clear PK DL UER
      have B4 := kd (bthen B3.out x3.bw)
      have V1 := kd (Y1.out.step x3.bw); have V2 := kd (Y2.out.step x3.bw); have V3 := kd (x3.base B3.out)
      have R3 := kd (R2.out.below x3.bw)
      clear E2 E3 x3 hl Y1 Y2 R2 BAD B3
      have k0 : w3.cell? ⟨ub, 0, none⟩ = some (.string (strOfNums u.sc)) := R3.out.cell 0
      have k1 : w3.cell? ⟨ub, 1, none⟩ = some (.string (strOfNums u.us)) := R3.out.cell 1
      have k2 : w3.cell? ⟨ub, 2, none⟩ = some (.string (strOfNums u.ho)) := R3.out.cell 2
      have k3 : w3.cell? ⟨ub, 3, none⟩ = some (.int .i64 u.po) := R3.out.cell 3
      have k4 : w3.cell? ⟨ub, 4, none⟩ = some (.slice A1 u.ps.length c1) := R3.out.cell 4
      have k5 : w3.cell? ⟨ub, 5, none⟩ = some (.slice A2 u.hs.length c2) := R3.out.cell 5
      have RR := kd (RES.out _ B4.out)
      go_wp2_with (with_reducible refine wpList_storeG rfl 38 (.tmp 10) (.tmp 53) rfl RR.out [.string (strOfNums nm), .string (strOfNums u.sc), .string (strOfNums u.us), .string (strOfNums u.ho), .int .i64 u.po, .slice A1 u.ps.length c1, .slice A2 u.hs.length c2, .slice A3 l.length c3] rfl rfl (len8 _ _ _ _ _ _ _ _ _ _ _ _ _ _ _ _) (size8 _ _ _ _ _ _ _ _) (ad_one _ _ _ _ _) ?_)
      intro w9 R9 G9
      have BW9 := kd (GRO.out _ _ B4.out G9.out)
      have W1 := kd (vx_res V1.out WB0.out WBS.out G9.out BW9.out)
      have W2 := kd (vx_res V2.out WB0.out WBS.out G9.out BW9.out)
      have W3 := kd (vx_res V3.out WB0.out WBS.out G9.out BW9.out)
      go_wp2_with fail
      exact bodyPost_ret (results_cuv rfl _ _ _ w.heap.size [.string (strOfNums nm), .string (strOfNums u.sc), .string (strOfNums u.us), .string (strOfNums u.ho), .int .i64 u.po, .slice A1 u.ps.length c1, .slice A2 u.hs.length c2, .slice A3 l.length c3] _ rfl R9.out.range Tryz.underlying38 rfl (size8 _ _ _ _ _ _ _ _)) rfl (by exact GOOD.out _ _ _ _ _ _ _ E.out W1.out W2.out W3.out)
end Go.Proofs.YthfonniieaiocaaGreatDoor
namespace Go.Proofs.YthfonniieaiocaaGreatDoor
open Go.RowKit

def bareL (xs : List Int) (i : Nat) : Except (Nat × Int) Adr :=
  if untilL xs i [63, 44] < untilL xs i [59, 32, 9] then .error (untilL xs i [63, 44], 5) else restL xs [] i (untilL xs i [59, 32, 9]) (untilL xs i [59, 32, 9])
def closeL (xs d : List Int) (b : Nat) : Except (Nat × Int) Adr :=
  if untilL xs b [62] = xs.length then .error (xs.length, 5) else restL xs d (b + 1) (untilL xs b [62]) (untilL xs b [62] + 1)
def openL (xs : List Int) : Except (Nat × Int) (List Int × Nat) → Except (Nat × Int) Adr
  | .error z => .error z
  | .ok r => closeL xs r.1 r.2
theorem aimX_rest {xs d : List Int} {b e h : Nat} : (match aimX xs b e h with
    | .error z => .error z
    | .ok q => adr3 xs d q.1 q.2) = restL xs d b e h := by
  unfold aimX restL adr3
  cases uriL (subL xs b e) with
  | error q => rfl
  | ok u => rfl
theorem adr2_bare {xs : List Int} {i : Nat} (h : atL xs i 60 = false) : adr2 xs [] i = bareL xs i := by
  unfold adr2 bareL
  rw [aim_out h rfl rfl]
  by_cases hq : untilL xs i [63, 44] < untilL xs i [59, 32, 9]
  · rw [if_pos hq, if_pos hq]
  · rw [if_neg hq, if_neg hq]; exact aimX_rest
theorem adr2_close {xs d : List Int} {b : Nat} (h : atL xs b 60 = true) : adr2 xs d b = closeL xs d b := by
  obtain ⟨h1, h2⟩ := atL_lt (xs := xs) (a := b) (c := 60) (by rw [h]; decide)
  have e : untilL xs b [62] = untilL xs (b + 1) [62] := skip_yes h1 (by rw [h2]; rfl)
  unfold adr2 closeL
  rw [aim_in h rfl, e]
  by_cases hq : untilL xs (b + 1) [62] = xs.length
  · rw [if_pos hq, if_pos hq, hq]
  · rw [if_neg hq, if_neg hq]; exact aimX_rest
theorem words_at {xs : List Int} : ∀ (f a : Nat) (l : List (List Int)) {l' : List (List Int)} {b : Nat}, a ≤ xs.length → xs.length + 1 ≤ f + a → wordsN xs f a l = .ok (l', b) → atL xs b 60 = true
  | 0, a, l, l', b, ha, hf, h => by omega
  | f + 1, a, l, l', b, ha, hf, h => by
    by_cases h0 : atL xs a 60 = true
    · rw [words_end h0] at h
      injection h with h
      injection h with _ h
      subst h; exact h0
    · have h1 : atL xs a 60 = false := by simpa using h0
      by_cases h2 : skipTo isTok xs a = a
      · rw [words_bad h1 h2] at h; cases h
      · rw [words_next h1 rfl h2 rfl] at h
        have k1 := skip_ge isTok xs a
        have k2 := skip_ge isBlank xs (skipTo isTok xs a)
        have k3 : skipTo isTok xs a ≤ xs.length := skip_le ha
        exact words_at f _ _ (skip_le k3) (by omega) h
theorem quotD_ok {xs : List Int} {a : Nat} {r : List Int × Nat} (h : quotD xs a = .ok r) : atL xs r.2 60 = true := by
  unfold quotD at h
  split at h
  · cases h
  · split at h
    · cases h
    · rename_i h2
      injection h with h
      subst h
      simpa using h2
theorem wordD_ok {xs : List Int} {a : Nat} {r : List Int × Nat} (ha : a ≤ xs.length) (h : wordD (wordsN xs (xs.length + 1) a []) = .ok r) : atL xs r.2 60 = true := by
  cases hw : wordsN xs (xs.length + 1) a [] with
  | error e => rw [hw] at h; cases h
  | ok q =>
    rw [hw] at h
    injection h with h
    subst h
    exact words_at (l' := q.1) _ _ _ ha (by omega) hw
def adrQ (xs : List Int) : Except (Nat × Int) (List Int × Nat) → Except (Nat × Int) Adr
  | .error e => .error e
  | .ok q => adr2 xs q.1 q.2
theorem adrQ_eq {xs : List Int} (h : ¬ 1024 < xs.length) {Q : Except (Nat × Int) (List Int × Nat)} (hQ : nameL xs = Q) : adrL xs = adrQ xs Q := by
  rw [adr_eq, if_neg h, hQ]
  cases Q with
  | error e => rfl
  | ok q => rfl
theorem openL_adr {xs : List Int} (Q : Except (Nat × Int) (List Int × Nat)) (h : ∀ r, Q = .ok r → atL xs r.2 60 = true) : adrQ xs Q = openL xs Q := by
  cases Q with
  | error e => rfl
  | ok q => exact adr2_close (h q rfl)
theorem adr_long {xs : List Int} (h : 1024 < xs.length) : adrL xs = .error (1024, 4) := by rw [adr_eq, if_pos h]
theorem adr_quot {xs : List Int} {i : Nat} (h : ¬ 1024 < xs.length) (hi : skipTo isBlank xs 0 = i) (h2 : atL xs i 34 = true) : adrL xs = openL xs (quotD xs i) := by
  have e : nameL xs = quotD xs i := by rw [nameL_eq hi rfl, if_pos h2]; rfl
  exact (adrQ_eq h e).trans (openL_adr _ fun r hr => quotD_ok hr)
theorem adr_word {xs : List Int} {i : Nat} (h : ¬ 1024 < xs.length) (hi : skipTo isBlank xs 0 = i) (h2 : atL xs i 34 = false) (h3 : untilL xs i [60] < xs.length) : adrL xs = openL xs (wordD (wordsN xs (xs.length + 1) i [])) := by
  have e : nameL xs = wordD (wordsN xs (xs.length + 1) i []) := by
    rw [nameL_eq hi rfl, if_neg (by rw [h2]; decide), has_60 hi, if_pos (by simpa using h3)]
    cases wordsN xs (xs.length + 1) i [] with
    | error e => rfl
    | ok q => rfl
  exact (adrQ_eq h e).trans (openL_adr _ fun r hr => wordD_ok (by rw [← hi]; exact skip_le (Nat.zero_le _)) hr)
theorem adr_bare {xs : List Int} {i : Nat} (h : ¬ 1024 < xs.length) (hi : skipTo isBlank xs 0 = i) (h2 : atL xs i 34 = false) (h3 : ¬ untilL xs i [60] < xs.length) : adrL xs = bareL xs i := by
  have e : nameL xs = .ok ([], i) := by
    rw [nameL_eq hi rfl, if_neg (by rw [h2]; decide), has_60 hi, if_neg (by simpa using h3)]
  have e2 : atL xs i 60 = false := by
    cases h60 : atL xs i 60 with
    | false => rfl
    | true =>
      obtain ⟨a1, a2⟩ := atL_lt (xs := xs) (a := i) (c := 60) (by rw [h60]; decide)
      have : untilL xs i [60] = i := skip_no a1 (by rw [a2]; rfl)
      rw [this] at h3
      exact absurd a1 h3
  rw [adr_eq, if_neg h, e]
  exact adr2_bare e2
theorem bare_bad {xs : List Int} {i e q : Nat} (he : untilL xs i [59, 32, 9] = e) (hq : untilL xs i [63, 44] = q) (h : q < e) : bareL xs i = .error (q, 5) := by unfold bareL; rw [he, hq, if_pos h]
theorem bare_go {xs : List Int} {i e q : Nat} (he : untilL xs i [59, 32, 9] = e) (hq : untilL xs i [63, 44] = q) (h : ¬ q < e) : bareL xs i = restL xs [] i e e := by unfold bareL; rw [he, hq, if_neg h]
set_option maxHeartbeats 2000000 in
theorem rbare_any (s : ByteArray) (i : Nat) (w : World) (hi : i ≤ s.size) (hs : s.size ≤ 1024) :
    Calls Tryz.prog 87 #[.string s, .int .i64 (i : Nat)] w (AdrP w (bareL (byteL s) i)) := by
  have HL := kd (byteL_len s)
  have HB := kd (byteL_by s)
  have EY := kd (fun (j : Nat) (h : j < s.size) (hx : ([59, 32, 9] : List Int).contains ((byteL s).getD j 0) = false) => show untilL (byteL s) j [59, 32, 9] = untilL (byteL s) (j + 1) [59, 32, 9] from skip_yes (by rw [HL.out]; exact h) (by rw [hx]; rfl))
  have EN := kd (fun (j : Nat) (h : j < s.size) (hx : ([59, 32, 9] : List Int).contains ((byteL s).getD j 0) = true) => show untilL (byteL s) j [59, 32, 9] = j from skip_no (by rw [HL.out]; exact h) (by rw [hx]; rfl))
  have EE := kd (show untilL (byteL s) s.size [59, 32, 9] = s.size from skip_end (by rw [HL.out]; exact Nat.le_refl _))
  have QY := kd (fun (j : Nat) (h : j < s.size) (hx : ([63, 44] : List Int).contains ((byteL s).getD j 0) = false) => show untilL (byteL s) j [63, 44] = untilL (byteL s) (j + 1) [63, 44] from skip_yes (by rw [HL.out]; exact h) (by rw [hx]; rfl))
  have QN := kd (fun (j : Nat) (h : j < s.size) (hx : ([63, 44] : List Int).contains ((byteL s).getD j 0) = true) => show untilL (byteL s) j [63, 44] = j from skip_no (by rw [HL.out]; exact h) (by rw [hx]; rfl))
  have UL := until_le (xs := byteL s) (a := i) (st := [59, 32, 9]) (by rw [HL.out]; exact hi)
  rw [HL.out] at UL
  obtain ⟨e, he⟩ : ∃ e, untilL (byteL s) i [59, 32, 9] = e := ⟨_, rfl⟩
  obtain ⟨q, hq⟩ : ∃ q, untilL (byteL s) i [63, 44] = q := ⟨_, rfl⟩
  rw [he] at UL
  obtain ⟨ul1, ul2⟩ := UL
  have EB := kd (fun h => bare_bad he hq h)
  have EG := kd (fun h => bare_go he hq h)
  have HE := kd he; have HQ := kd hq
  clear he hq
  have RC := kd (fun w => rrest_any s [] i e e w ul1 ul2 ul2 hs)
  have BAD := kd (fun w' n k (h : bareL (byteL s) i = .error (n, k)) hb hk => AdrP.bad (w := w) (w' := w') h hb hk)
  have GOOD := kd (fun w' d u l v1 v2 v3 (h : bareL (byteL s) i = .ok ⟨d, u, l⟩) h1 h2 h3 => AdrP.good (w := w) (w' := w') (v1 := v1) (v2 := v2) (v3 := v3) h h1 h2 h3)
  generalize AdrP w (bareL (byteL s) i) = PP at *
  generalize bareL (byteL s) i = R at *
  have RES := kd (fun wx h => below_row (w := w) (wx := wx) (T := 38) (zs := [.string ⟨#[]⟩, .string ⟨#[]⟩, .string ⟨#[]⟩, .string ⟨#[]⟩, .int .i64 0, .slice none 0 0, .slice none 0 0, .slice none 0 0]) h)
  have GRO := kd (fun wx w9 h hg => below_store (w := w) (wx := wx) (w9 := w9) (T := 38) (zs := [.string ⟨#[]⟩, .string ⟨#[]⟩, .string ⟨#[]⟩, .string ⟨#[]⟩, .int .i64 0, .slice none 0 0, .slice none 0 0, .slice none 0 0]) h hg)
  have WB0 := kd ((Below.refl w.heap.size w).alloc (Nat.le_refl _) (.cells ([.string ⟨#[]⟩, .string ⟨#[]⟩, .string ⟨#[]⟩, .string ⟨#[]⟩, .int .i64 0, .slice none 0 0, .slice none 0 0, .slice none 0 0] : List Value).toArray 38))
  have WBS := kd (show w.heap.size < (w.alloc (.cells ([.string ⟨#[]⟩, .string ⟨#[]⟩, .string ⟨#[]⟩, .string ⟨#[]⟩, .int .i64 0, .slice none 0 0, .slice none 0 0, .slice none 0 0] : List Value).toArray 38)).heap.size by rw [World.size_alloc]; omega)
  have REF := kd (Below.refl (w.alloc (.cells ([.string ⟨#[]⟩, .string ⟨#[]⟩, .string ⟨#[]⟩, .string ⟨#[]⟩, .int .i64 0, .slice none 0 0, .slice none 0 0, .slice none 0 0] : List Value).toArray 38)).heap.size (w.alloc (.cells ([.string ⟨#[]⟩, .string ⟨#[]⟩, .string ⟨#[]⟩, .string ⟨#[]⟩, .int .i64 0, .slice none 0 0, .slice none 0 0, .slice none 0 0] : List Value).toArray 38)))
  go_enter Tryz.func87, Tryz.ntmps87
  go_upto_region 1 with (fail)
  generalize w.alloc (.cells #[.string ⟨#[]⟩, .string ⟨#[]⟩, .string ⟨#[]⟩, .string ⟨#[]⟩, .int .i64 0, .slice none 0 0, .slice none 0 0, .slice none 0 0] 38) = wb at *
  go_upto_block 0 with (fail)
  go_cut [7] (fun v wx => v = .int .i64 (e : Nat) ∧ Hid (wb = wx))
  case first =>
    go_wp2_with fail
    go_loopw [7] (fun v wr => ∃ j : Nat, i ≤ j ∧ j ≤ s.size ∧ v = .int .i64 j ∧ wb = wr ∧ Hid (untilL (byteL s) j [59, 32, 9] = e)) (fun v _ => s.size - (intOf v).toNat)
    case atStart => exact ⟨i, Nat.le_refl _, hi, rfl, rfl, HE⟩
    case round =>
      clear HE
      obtain ⟨j, hij, hj, rfl, rfl, HU⟩ := hrel
      have MORE := kd (fun (h : j < s.size) (hx : ([59, 32, 9] : List Int).contains ((byteL s).getD j 0) = false) => (EY.out j h hx).symm.trans HU.out)
      have STOP := kd (show (j < s.size → ([59, 32, 9] : List Int).contains ((byteL s).getD j 0) = true) → j = e from fun h => by
        by_cases hjs : j < s.size
        · rw [← HU.out, EN.out j hjs (h hjs)]
        · obtain rfl : j = s.size := by omega
          rw [← HU.out, EE.out])
      clear EY EN EE HU
      by_cases hlt : j < s.size
      · have hd : decide ((j : Int) < (s.size : Int)) = true := by simp; omega
        have d1 := fun w => idx_str s (i := j) hlt (z := (j : Int)) rfl w
        have hx := HB.out _ (getD_mem (l := byteL s) (i := j) (by rw [HL.out]; exact hlt))
        have BC := kd (fun w => refblank_any ((byteL s).getD j 0) w hx.1 hx.2)
        have IB := kd (show isBlank ((byteL s).getD j 0) = ((byteL s).getD j 0 == 32 || (byteL s).getD j 0 == 9) from rfl)
        have CT := kd (show ([59, 32, 9] : List Int).contains ((byteL s).getD j 0) = ((byteL s).getD j 0 == 59 || isBlank ((byteL s).getD j 0)) by rw [IB.out, Bool.eq_iff_iff]; simp)
        clear hx IB
        generalize (byteL s).getD j 0 = x at *
        by_cases h59 : x = 59
        · have q1 : (x != 59) = false := by simpa using h59
          have J := STOP.out (fun _ => by rw [CT.out, h59]; rfl)
          clear MORE STOP CT BC h59
          subst J
          go_wp2_with fail
          go_meet
          exact ⟨rfl, kd rfl⟩
        · have q1 : (x != 59) = true := by simpa using h59
          cases hb : isBlank x with
          | true =>
            rw [hb] at BC CT
            have J := STOP.out (fun _ => by rw [CT.out]; simp)
            clear MORE STOP CT h59 hb
            subst J
            go_wp2_with (go_at_call 148; refine (BC.out _).mono ?_; rintro _ w' ⟨rfl, rfl⟩)
            go_meet
            exact ⟨rfl, kd rfl⟩
          | false =>
            rw [hb] at BC CT
            have M2 := kd (MORE.out hlt (by rw [CT.out]; simpa using h59))
            clear MORE STOP CT h59 hb
            go_wp2_with (go_at_call 148; refine (BC.out _).mono ?_; rintro _ w' ⟨rfl, rfl⟩)
            go_roundw
            case rel => exact ⟨j + 1, by omega, by omega, by go_num, by first | rfl | trivial, M2⟩
            case measure => simp [intOf]; omega
      · obtain rfl : j = s.size := by omega
        have hd : decide ((s.size : Int) < (s.size : Int)) = false := by simp
        have J := STOP.out (fun h => absurd h hlt)
        clear MORE STOP hlt
        subst J
        go_wp2_with fail
        go_meet
        exact ⟨rfl, kd rfl⟩
  case rest =>
  obtain ⟨rfl, hwx⟩ := hcut
  obtain rfl := hwx.out
  clear hwx EY EN EE HE
  have hij := ul1
  go_wp2_with fail
  go_loopw [8] (fun v wr => ∃ n : Nat, i ≤ n ∧ n ≤ e ∧ v = .int .i64 n ∧ wb = wr ∧ Hid (untilL (byteL s) n [63, 44] = q)) (fun v _ => e - (intOf v).toNat)
  case atStart => exact ⟨i, Nat.le_refl _, hij, rfl, rfl, HQ⟩
  case round =>
    clear HQ
    obtain ⟨n, hin, hn, rfl, rfl, HU⟩ := hrel
    by_cases hlt2 : n < e
    · have hd2 : decide ((n : Int) < (e : Int)) = true := by simp; omega
      have d2 := fun w => idx_str s (i := n) (by omega) (z := (n : Int)) rfl w
      have MORE := kd (fun hx => (QY.out n (by omega) hx).symm.trans HU.out)
      have STOP := kd (fun hx => (QN.out n (by omega) hx).symm.trans HU.out)
      have CT := kd (show ([63, 44] : List Int).contains ((byteL s).getD n 0) = ((byteL s).getD n 0 == 63 || (byteL s).getD n 0 == 44) by rw [Bool.eq_iff_iff]; simp)
      clear QY QN HU
      generalize (byteL s).getD n 0 = y at *
      by_cases h63 : y = 63
      · have q63 : (y == 63) = true := beq_iff_eq.2 h63
        have J := STOP.out (by rw [CT.out, q63]; rfl)
        have E := kd (EB.out (by omega))
        rw [← J] at E
        clear MORE STOP CT h63 J EB EG RC GOOD
        have RR := kd (RES.out _ REF.out)
        go_wp2_with (with_reducible refine wpList_storeG rfl 38 (.tmp 4) (.tmp 45) rfl RR.out [.string ⟨#[]⟩, .string ⟨#[]⟩, .string ⟨#[]⟩, .string ⟨#[]⟩, .int .i64 0, .slice none 0 0, .slice none 0 0, .slice none 0 0] rfl rfl (len8 _ _ _ _ _ _ _ _ _ _ _ _ _ _ _ _) (size8 _ _ _ _ _ _ _ _) (ad_one _ _ _ _ _) ?_)
        intro w9 R9 G9
        have BW9 := kd (GRO.out _ _ REF.out G9.out)
        go_wp2_with fail
        exact bodyPost_ret (results_cuv rfl _ _ _ w.heap.size [.string ⟨#[]⟩, .string ⟨#[]⟩, .string ⟨#[]⟩, .string ⟨#[]⟩, .int .i64 0, .slice none 0 0, .slice none 0 0, .slice none 0 0] _ rfl R9.out.range Tryz.underlying38 rfl (size8 _ _ _ _ _ _ _ _)) rfl (by exact BAD.out _ _ _ E.out BW9.out (by decide))
      · have q63 : (y == 63) = false := by simpa using h63
        by_cases h44 : y = 44
        · have q44 : (y == 44) = true := beq_iff_eq.2 h44
          have J := STOP.out (by rw [CT.out, q44]; simp)
          have E := kd (EB.out (by omega))
          rw [← J] at E
          clear MORE STOP CT h63 h44 J EB EG RC GOOD
          have RR := kd (RES.out _ REF.out)
          go_wp2_with (with_reducible refine wpList_storeG rfl 38 (.tmp 4) (.tmp 45) rfl RR.out [.string ⟨#[]⟩, .string ⟨#[]⟩, .string ⟨#[]⟩, .string ⟨#[]⟩, .int .i64 0, .slice none 0 0, .slice none 0 0, .slice none 0 0] rfl rfl (len8 _ _ _ _ _ _ _ _ _ _ _ _ _ _ _ _) (size8 _ _ _ _ _ _ _ _) (ad_one _ _ _ _ _) ?_)
          intro w9 R9 G9
          have BW9 := kd (GRO.out _ _ REF.out G9.out)
          go_wp2_with fail
          exact bodyPost_ret (results_cuv rfl _ _ _ w.heap.size [.string ⟨#[]⟩, .string ⟨#[]⟩, .string ⟨#[]⟩, .string ⟨#[]⟩, .int .i64 0, .slice none 0 0, .slice none 0 0, .slice none 0 0] _ rfl R9.out.range Tryz.underlying38 rfl (size8 _ _ _ _ _ _ _ _)) rfl (by exact BAD.out _ _ _ E.out BW9.out (by decide))
        · have q44 : (y == 44) = false := by simpa using h44
          have M2 := kd (MORE.out (by rw [CT.out, q63, q44]; rfl))
          clear MORE STOP CT h63 h44
          go_wp2_with fail
          go_roundw
          case rel => exact ⟨n + 1, by omega, by omega, by go_num, by first | rfl | trivial, M2⟩
          case measure => simp [intOf]; omega
    · obtain rfl : n = e := by omega
      have hd2 : decide ((n : Int) < (n : Int)) = false := by simp
      have HR := kd (EG.out (by have := skip_ge (fun c => !([63, 44] : List Int).contains c) (byteL s) n; have h2 : untilL (byteL s) n [63, 44] = q := HU.out; unfold untilL at h2; omega))
      have RD := kd (RC.out wb)
      clear QY QN HU EB EG RC
      have HR0 := HR.out
      generalize restL (byteL s) [] i n n = Q at *
      go_wp2_with fail
      refine RD.out.mono ?_
      clear RD
      cases Q with
      | error q =>
        obtain ⟨n, k⟩ := q
        rintro _ w1 ⟨rfl, hb1, hk⟩
        have E := kd (show R = .error (n, k) from HR0)
        have HK := kd hk
        have B1 := kd (bthen REF.out hb1)
        clear hb1 hk GOOD HR HR0
        dsimp only at HK
        have RR := kd (RES.out _ B1.out)
        go_wp2_with (with_reducible refine wpList_storeG rfl 38 (.tmp 4) (.tmp 52) rfl RR.out [.string ⟨#[]⟩, .string ⟨#[]⟩, .string ⟨#[]⟩, .string ⟨#[]⟩, .int .i64 0, .slice none 0 0, .slice none 0 0, .slice none 0 0] rfl rfl (len8 _ _ _ _ _ _ _ _ _ _ _ _ _ _ _ _) (size8 _ _ _ _ _ _ _ _) (ad_one _ _ _ _ _) ?_)
        intro w9 R9 G9
        have BW9 := kd (GRO.out _ _ B1.out G9.out)
        go_wp2_with fail
        exact bodyPost_ret (results_cuv rfl _ _ _ w.heap.size [.string ⟨#[]⟩, .string ⟨#[]⟩, .string ⟨#[]⟩, .string ⟨#[]⟩, .int .i64 0, .slice none 0 0, .slice none 0 0, .slice none 0 0] _ rfl R9.out.range Tryz.underlying38 rfl (size8 _ _ _ _ _ _ _ _)) rfl (by exact BAD.out _ _ _ E.out BW9.out HK.out)
      | ok d =>
        rintro _ w1 ⟨v1, v2, v3, rfl, x1, x2, x3⟩
        obtain ⟨A1, c1, hv1⟩ := own_slice x1.o
        obtain ⟨A2, c2, hv2⟩ := own_slice x2.o
        obtain ⟨A3, c3, hv3⟩ := own_slice x3.o
        subst hv1 hv2 hv3
        have E := kd (show R = .ok ⟨d.ds, d.u, d.ps⟩ from HR0)
        have B1 := kd (bthen REF.out x1.bw)
        have V1 := kd (x1.base REF.out); have V2 := kd (x2.base REF.out); have V3 := kd (x3.base REF.out)
        clear x1 x2 x3 BAD HR HR0
        have RR := kd (RES.out _ B1.out)
        go_wp2_with (with_reducible refine wpList_storeG rfl 38 (.tmp 4) (.tmp 52) rfl RR.out [.string (strOfNums d.ds), .string (strOfNums d.u.sc), .string (strOfNums d.u.us), .string (strOfNums d.u.ho), .int .i64 d.u.po, .slice A1 d.u.ps.length c1, .slice A2 d.u.hs.length c2, .slice A3 d.ps.length c3] rfl rfl (len8 _ _ _ _ _ _ _ _ _ _ _ _ _ _ _ _) (size8 _ _ _ _ _ _ _ _) (ad_one _ _ _ _ _) ?_)
        intro w9 R9 G9
        have BW9 := kd (GRO.out _ _ B1.out G9.out)
        have W1 := kd (vx_res V1.out WB0.out WBS.out G9.out BW9.out)
        have W2 := kd (vx_res V2.out WB0.out WBS.out G9.out BW9.out)
        have W3 := kd (vx_res V3.out WB0.out WBS.out G9.out BW9.out)
        go_wp2_with fail
        exact bodyPost_ret (results_cuv rfl _ _ _ w.heap.size [.string (strOfNums d.ds), .string (strOfNums d.u.sc), .string (strOfNums d.u.us), .string (strOfNums d.u.ho), .int .i64 d.u.po, .slice A1 d.u.ps.length c1, .slice A2 d.u.hs.length c2, .slice A3 d.ps.length c3] _ rfl R9.out.range Tryz.underlying38 rfl (size8 _ _ _ _ _ _ _ _)) rfl (by exact GOOD.out _ _ _ _ _ _ _ E.out W1.out W2.out W3.out)
end Go.Proofs.YthfonniieaiocaaGreatDoor
namespace Go.Proofs.YthfonniieaiocaaGreatDoor
open Go.RowKit

theorem close_no {xs d : List Int} {b : Nat} (h : untilL xs b [62] = xs.length) : closeL xs d b = .error (xs.length, 5) := by unfold closeL; rw [if_pos h]
theorem close_go {xs d : List Int} {b e : Nat} (he : untilL xs b [62] = e) (h : e ≠ xs.length) : closeL xs d b = restL xs d (b + 1) e (e + 1) := by unfold closeL; rw [he, if_neg h]
theorem quotD_err {xs : List Int} {a : Nat} {z : Nat × Int} (h : quotD xs a = .error z) : z.2 ≠ 0 := by
  unfold quotD at h
  split at h
  · rename_i h2
    injection h with h; subst h; exact h2
  · split at h
    · injection h with h; subst h; exact five _
    · cases h
theorem wordD_err {T : Except Nat (List (List Int) × Nat)} {z : Nat × Int} (h : wordD T = .error z) : z.2 ≠ 0 := by
  cases T with
  | error e => injection h with h; subst h; exact five e
  | ok q => cases h
theorem until_none {xs : List Int} {i m : Nat} (hm : untilL xs i [60] = m) (hl : m ≤ xs.length) : ∀ j, i ≤ j → j < m → xs.getD j 0 ≠ 60 := fun j h1 h2 e => by
  have h3 := skip_until (p := fun c => !([60] : List Int).contains c) (xs := xs) h1 (by omega) (by rw [e]; rfl)
  have h4 : untilL xs i [60] ≤ j := h3
  omega
set_option maxHeartbeats 2000000 in
theorem rparseadr_any (s : ByteArray) (w : World) : Calls Tryz.prog 27 #[.string s] w (AdrP w (adrL (byteL s))) := by
  have HL := kd (byteL_len s)
  have BAD := kd (fun w' n k (h : adrL (byteL s) = .error (n, k)) hb hk => AdrP.bad (w := w) (w' := w') h hb hk)
  have GOOD := kd (fun w' d u l v1 v2 v3 (h : adrL (byteL s) = .ok ⟨d, u, l⟩) h1 h2 h3 => AdrP.good (w := w) (w' := w') (v1 := v1) (v2 := v2) (v3 := v3) h h1 h2 h3)
  have AL := kd (fun h => adr_long (xs := byteL s) h)
  obtain ⟨i, hi⟩ : ∃ i, skipTo isBlank (byteL s) 0 = i := ⟨_, rfl⟩
  have AQ := kd (fun h h2 => adr_quot (xs := byteL s) h hi h2)
  have AW := kd (fun h h2 h3 => adr_word (xs := byteL s) h hi h2 h3)
  have AB := kd (fun h h2 h3 => adr_bare (xs := byteL s) h hi h2 h3)
  have HI := kd hi
  have is : i ≤ s.size := by rw [← hi, ← HL.out]; exact skip_le (Nat.zero_le _)
  clear hi
  generalize AdrP w (adrL (byteL s)) = PP at *
  generalize adrL (byteL s) = R at *
  have RES := kd (fun wx h => below_row (w := w) (wx := wx) (T := 38) (zs := [.string ⟨#[]⟩, .string ⟨#[]⟩, .string ⟨#[]⟩, .string ⟨#[]⟩, .int .i64 0, .slice none 0 0, .slice none 0 0, .slice none 0 0]) h)
  have GRO := kd (fun wx w9 h hg => below_store (w := w) (wx := wx) (w9 := w9) (T := 38) (zs := [.string ⟨#[]⟩, .string ⟨#[]⟩, .string ⟨#[]⟩, .string ⟨#[]⟩, .int .i64 0, .slice none 0 0, .slice none 0 0, .slice none 0 0]) h hg)
  have WB0 := kd ((Below.refl w.heap.size w).alloc (Nat.le_refl _) (.cells ([.string ⟨#[]⟩, .string ⟨#[]⟩, .string ⟨#[]⟩, .string ⟨#[]⟩, .int .i64 0, .slice none 0 0, .slice none 0 0, .slice none 0 0] : List Value).toArray 38))
  have WBS := kd (show w.heap.size < (w.alloc (.cells ([.string ⟨#[]⟩, .string ⟨#[]⟩, .string ⟨#[]⟩, .string ⟨#[]⟩, .int .i64 0, .slice none 0 0, .slice none 0 0, .slice none 0 0] : List Value).toArray 38)).heap.size by rw [World.size_alloc]; omega)
  have REF := kd (Below.refl (w.alloc (.cells ([.string ⟨#[]⟩, .string ⟨#[]⟩, .string ⟨#[]⟩, .string ⟨#[]⟩, .int .i64 0, .slice none 0 0, .slice none 0 0, .slice none 0 0] : List Value).toArray 38)).heap.size (w.alloc (.cells ([.string ⟨#[]⟩, .string ⟨#[]⟩, .string ⟨#[]⟩, .string ⟨#[]⟩, .int .i64 0, .slice none 0 0, .slice none 0 0, .slice none 0 0] : List Value).toArray 38)))
  rw [HL.out] at AL AQ AW AB
  go_enter Tryz.func27, Tryz.ntmps27
  go_upto_region 1 with (fail)
  generalize w.alloc (.cells #[.string ⟨#[]⟩, .string ⟨#[]⟩, .string ⟨#[]⟩, .string ⟨#[]⟩, .int .i64 0, .slice none 0 0, .slice none 0 0, .slice none 0 0] 38) = wb at *
  by_cases hbig : 1024 < s.size
  · have dd : decide ((1024 : Int) < (s.size : Int)) = true := by simp; omega
    have E := kd (AL.out hbig)
    clear AL AQ AW AB GOOD hbig
    have RR := kd (RES.out _ REF.out)
    go_wp2_with (with_reducible refine wpList_storeG rfl 38 (.tmp 2) (.tmp 15) rfl RR.out [.string ⟨#[]⟩, .string ⟨#[]⟩, .string ⟨#[]⟩, .string ⟨#[]⟩, .int .i64 0, .slice none 0 0, .slice none 0 0, .slice none 0 0] rfl rfl (len8 _ _ _ _ _ _ _ _ _ _ _ _ _ _ _ _) (size8 _ _ _ _ _ _ _ _) (ad_one _ _ _ _ _) ?_)
    intro w9 R9 G9
    have BW9 := kd (GRO.out _ _ REF.out G9.out)
    go_wp2_with fail
    exact bodyPost_ret (results_cuv rfl _ _ _ w.heap.size [.string ⟨#[]⟩, .string ⟨#[]⟩, .string ⟨#[]⟩, .string ⟨#[]⟩, .int .i64 0, .slice none 0 0, .slice none 0 0, .slice none 0 0] _ rfl R9.out.range Tryz.underlying38 rfl (size8 _ _ _ _ _ _ _ _)) rfl (by exact BAD.out _ _ _ E.out BW9.out (by decide))
  have dd : decide ((1024 : Int) < (s.size : Int)) = false := by simp; omega
  have hs : s.size ≤ 1024 := by omega
  have AQ2 := kd (fun h => AQ.out hbig h); have AW2 := kd (fun h h2 => AW.out hbig h h2); have AB2 := kd (fun h h2 => AB.out hbig h h2)
  clear AL AQ AW AB hbig
  have BK := kd (fun w => refblanksN s 0 0 w i rfl (Nat.zero_le _) HI.out (by omega))
  have IX := kd (fun w => rindex_any s i 60 w is (by omega))
  obtain ⟨m, hm⟩ : ∃ m, untilL (byteL s) i [60] = m := ⟨_, rfl⟩
  have ML := until_le (xs := byteL s) (a := i) (st := [60]) (by rw [HL.out]; exact is)
  rw [hm, HL.out] at ML
  rw [hm] at AW2 AB2
  have NO := kd (until_none hm (by rw [HL.out]; exact ML.2))
  have AQ := kd AQ2.out; have AW := kd AW2.out; have AB := kd AB2.out
  clear AQ2 AW2 AB2
  obtain ⟨ml1, ml2⟩ := ML
  have LV1 := kd (show m < s.size → idxA (byteL s) i 60 = (m : Int) from fun h => by unfold idxA; rw [hm, HL.out, if_neg (by omega)])
  have LV2 := kd (show ¬ m < s.size → idxA (byteL s) i 60 = -1 from fun h => by unfold idxA; rw [hm, HL.out, if_pos (by omega)])
  generalize idxA (byteL s) i 60 = lv at *
  go_upto_region 5 with (first
    | (go_at_call 85; refine (BK.out _).mono ?_; rintro _ w1 ⟨rfl, hb1⟩)
    | (go_at_call 86; refine (IX.out _).mono ?_; rintro _ _ ⟨rfl, rfl⟩))
  have B2 := kd (bthen REF.out hb1)
  clear BK IX REF hb1 dd
  go_cut [34] (fun v wx => Hid (Below wb.heap.size wb wx) ∧ ((v = .bool true ∧ Hid (R = bareL (byteL s) i)) ∨ (∃ (Q : Except (Nat × Int) (List Int × Nat)), v = .bool false ∧ Hid (R = openL (byteL s) Q) ∧ Hid (∀ r, Q = .ok r → atL (byteL s) r.2 60 = true) ∧ Hid (∀ z, Q = .error z → z.2 ≠ 0) ∧ Hid (∀ w : World, Calls Tryz.prog 88 #[.string s, .int .i64 (i : Nat), .int .i64 lv] w fun e w' => e = .returned (dspV Q) ∧ Below w.heap.size w w'))))
  case first =>
    by_cases hms : m < s.size
    · obtain rfl := LV1.out hms
      have d0 : decide ((m : Int) < 0) = false := by simp
      have M60 : (byteL s).getD m 0 = 60 := by
        have := until_stop (xs := byteL s) (a := i) (st := [60]) (by rw [hm, HL.out]; exact hms)
        rw [hm] at this
        simpa using this
      clear hm HI LV1 LV2
      by_cases h34 : (byteL s).getD i 0 = 34
      · have a34 : atL (byteL s) i 34 = true := by rw [atL_eq HL.out, h34]; simp; omega
        have DC := kd (fun w => rdispq_any s i (m : Int) w (by omega) (by omega) h34)
        have HR := kd (AQ.out a34)
        clear M60 NO h34 AQ AW AB
        go_wp2_with fail
        go_meet
        exact ⟨B2, .inr ⟨_, rfl, HR, kd (fun r h => quotD_ok h), kd (fun z h => quotD_err h), DC⟩⟩
      · have a34 : atL (byteL s) i 34 = false := by rw [atL_eq HL.out]; simp only [Bool.and_eq_false_iff]; right; simpa using h34
        have DC := kd (fun w => rdispw_any s i m w ml1 hms (by omega) h34 M60 NO.out)
        rw [HL.out] at DC
        have HR := kd (AW.out a34 hms)
        clear M60 NO h34 AQ AW AB
        go_wp2_with fail
        go_meet
        exact ⟨B2, .inr ⟨_, rfl, HR, kd (fun r h => wordD_ok (by rw [HL.out]; exact is) (by rw [HL.out]; exact h)), kd (fun z h => wordD_err h), DC⟩⟩
    · obtain rfl := LV2.out hms
      clear hm HI NO LV1 LV2
      by_cases his : i < s.size
      · have hd : ((i : Int) == (s.size : Int)) = false := by simp; omega
        have d1 := fun w => idx_str s (i := i) his (z := (i : Int)) rfl w
        by_cases h34 : (byteL s).getD i 0 = 34
        · have a34 : atL (byteL s) i 34 = true := by rw [atL_eq HL.out, h34]; simp; omega
          have DC := kd (fun w => rdispq_any s i (-1) w his (by omega) h34)
          rw [h34] at d1
          have HR := kd (AQ.out a34)
          clear h34 AQ AW AB
          go_wp2_with fail
          go_meet
          exact ⟨B2, .inr ⟨_, rfl, HR, kd (fun r h => quotD_ok h), kd (fun z h => quotD_err h), DC⟩⟩
        · have a34 : atL (byteL s) i 34 = false := by rw [atL_eq HL.out]; simp only [Bool.and_eq_false_iff]; right; simpa using h34
          have HR := kd (AB.out a34 hms)
          have q34 : ((byteL s).getD i 0 != 34) = true := by simpa using h34
          clear AB AW AQ a34 h34
          generalize (byteL s).getD i 0 = x0 at *
          go_wp2_with fail
          go_meet
          exact ⟨B2, .inl ⟨rfl, HR⟩⟩
      · obtain rfl : i = s.size := by omega
        have hd : ((s.size : Int) == (s.size : Int)) = true := by simp
        have a34 : atL (byteL s) s.size 34 = false := by rw [atL_eq HL.out]; simp
        have HR := kd (AB.out a34 hms)
        clear AB AW AQ a34
        go_wp2_with fail
        go_meet
        exact ⟨B2, .inl ⟨rfl, HR⟩⟩
  case rest =>
  obtain ⟨BB, hcase⟩ := hcut
  clear AB AW AQ NO HI hm B2 LV1 LV2
  rcases hcase with ⟨rfl, HR⟩ | ⟨Q, rfl, HR, QOK, QER, DC0⟩
  · have RD := kd (rbare_any s i wc is hs)
    have HR0 := HR.out
    generalize bareL (byteL s) i = Q at *
    go_wp2_with fail
    refine RD.out.mono ?_
    clear RD
    cases Q with
    | error q =>
      obtain ⟨n, k⟩ := q
      rintro _ w1 ⟨rfl, hb1, hk⟩
      have E := kd (show R = .error (n, k) from HR0)
      have HK := kd hk
      have B1 := kd (bthen BB.out hb1)
      clear hb1 hk GOOD HR HR0
      dsimp only at HK
      have RR := kd (RES.out _ B1.out)
      go_wp2_with (with_reducible refine wpList_storeG rfl 38 (.tmp 2) (.tmp 38) rfl RR.out [.string ⟨#[]⟩, .string ⟨#[]⟩, .string ⟨#[]⟩, .string ⟨#[]⟩, .int .i64 0, .slice none 0 0, .slice none 0 0, .slice none 0 0] rfl rfl (len8 _ _ _ _ _ _ _ _ _ _ _ _ _ _ _ _) (size8 _ _ _ _ _ _ _ _) (ad_one _ _ _ _ _) ?_)
      intro w9 R9 G9
      have BW9 := kd (GRO.out _ _ B1.out G9.out)
      go_wp2_with fail
      exact bodyPost_ret (results_cuv rfl _ _ _ w.heap.size [.string ⟨#[]⟩, .string ⟨#[]⟩, .string ⟨#[]⟩, .string ⟨#[]⟩, .int .i64 0, .slice none 0 0, .slice none 0 0, .slice none 0 0] _ rfl R9.out.range Tryz.underlying38 rfl (size8 _ _ _ _ _ _ _ _)) rfl (by exact BAD.out _ _ _ E.out BW9.out HK.out)
    | ok d =>
      rintro _ w1 ⟨v1, v2, v3, rfl, x1, x2, x3⟩
      obtain ⟨A1, c1, hv1⟩ := own_slice x1.o
      obtain ⟨A2, c2, hv2⟩ := own_slice x2.o
      obtain ⟨A3, c3, hv3⟩ := own_slice x3.o
      subst hv1 hv2 hv3
      have E := kd (show R = .ok ⟨d.ds, d.u, d.ps⟩ from HR0)
      have B1 := kd (bthen BB.out x1.bw)
      have V1 := kd (x1.base BB.out); have V2 := kd (x2.base BB.out); have V3 := kd (x3.base BB.out)
      clear x1 x2 x3 BAD HR HR0
      have RR := kd (RES.out _ B1.out)
      go_wp2_with (with_reducible refine wpList_storeG rfl 38 (.tmp 2) (.tmp 38) rfl RR.out [.string (strOfNums d.ds), .string (strOfNums d.u.sc), .string (strOfNums d.u.us), .string (strOfNums d.u.ho), .int .i64 d.u.po, .slice A1 d.u.ps.length c1, .slice A2 d.u.hs.length c2, .slice A3 d.ps.length c3] rfl rfl (len8 _ _ _ _ _ _ _ _ _ _ _ _ _ _ _ _) (size8 _ _ _ _ _ _ _ _) (ad_one _ _ _ _ _) ?_)
      intro w9 R9 G9
      have BW9 := kd (GRO.out _ _ B1.out G9.out)
      have W1 := kd (vx_res V1.out WB0.out WBS.out G9.out BW9.out)
      have W2 := kd (vx_res V2.out WB0.out WBS.out G9.out BW9.out)
      have W3 := kd (vx_res V3.out WB0.out WBS.out G9.out BW9.out)
      go_wp2_with fail
      exact bodyPost_ret (results_cuv rfl _ _ _ w.heap.size [.string (strOfNums d.ds), .string (strOfNums d.u.sc), .string (strOfNums d.u.us), .string (strOfNums d.u.ho), .int .i64 d.u.po, .slice A1 d.u.ps.length c1, .slice A2 d.u.hs.length c2, .slice A3 d.ps.length c3] _ rfl R9.out.range Tryz.underlying38 rfl (size8 _ _ _ _ _ _ _ _)) rfl (by exact GOOD.out _ _ _ _ _ _ _ E.out W1.out W2.out W3.out)
  · have DC := kd (DC0.out wc)
    clear DC0
    go_wp2_with fail
    refine DC.out.mono ?_
    clear DC
    cases Q with
    | error z =>
      obtain ⟨n, k⟩ := z
      rintro _ w3 ⟨rfl, hb3⟩
      have E := kd (show R = .error (n, k) from HR.out)
      have hk := QER.out (n, k) rfl
      dsimp only at hk
      have hk2 : (k != 0) = true := by simpa using hk
      have HK := kd hk
      have B3 := kd (bthen BB.out hb3)
      clear QOK QER HR hb3 hk GOOD
      unfold dspV
      dsimp only
      have RR := kd (RES.out _ B3.out)
      go_wp2_with (with_reducible refine wpList_storeG rfl 38 (.tmp 2) (.tmp 52) rfl RR.out [.string ⟨#[]⟩, .string ⟨#[]⟩, .string ⟨#[]⟩, .string ⟨#[]⟩, .int .i64 0, .slice none 0 0, .slice none 0 0, .slice none 0 0] rfl rfl (len8 _ _ _ _ _ _ _ _ _ _ _ _ _ _ _ _) (size8 _ _ _ _ _ _ _ _) (ad_one _ _ _ _ _) ?_)
      intro w9 R9 G9
      have BW9 := kd (GRO.out _ _ B3.out G9.out)
      go_wp2_with fail
      exact bodyPost_ret (results_cuv rfl _ _ _ w.heap.size [.string ⟨#[]⟩, .string ⟨#[]⟩, .string ⟨#[]⟩, .string ⟨#[]⟩, .int .i64 0, .slice none 0 0, .slice none 0 0, .slice none 0 0] _ rfl R9.out.range Tryz.underlying38 rfl (size8 _ _ _ _ _ _ _ _)) rfl (by exact BAD.out _ _ _ E.out BW9.out HK.out)
    | ok r =>
      obtain ⟨d, b⟩ := r
      rintro _ w3 ⟨rfl, hb3⟩
      have B3 := kd (bthen BB.out hb3)
      have a60 := QOK.out (d, b) rfl
      dsimp only at a60
      obtain ⟨b1, b2⟩ := atL_lt (xs := byteL s) (a := b) (c := 60) (by rw [a60]; decide)
      rw [HL.out] at b1
      have HR2 := kd (show R = closeL (byteL s) d b from HR.out)
      have IX := kd (fun w => rindex_any s b 62 w (by omega) (by omega))
      have UL := until_le (xs := byteL s) (a := b) (st := [62]) (by rw [HL.out]; omega)
      have U1 : untilL (byteL s) b [62] = untilL (byteL s) (b + 1) [62] := skip_yes (by rw [HL.out]; exact b1) (by rw [b2]; rfl)
      have U2 := until_le (xs := byteL s) (a := b + 1) (st := [62]) (by rw [HL.out]; exact b1)
      rw [← U1] at U2
      rw [HL.out] at U2
      clear U1 UL QOK QER HR hb3 a60 b2
      unfold dspV
      dsimp only
      obtain ⟨e, he⟩ : ∃ e, untilL (byteL s) b [62] = e := ⟨_, rfl⟩
      rw [he] at U2
      obtain ⟨u1, u2⟩ := U2
      by_cases hes : e = s.size
      · have E := kd (HR2.out.trans (close_no (by rw [he, HL.out, hes])))
        rw [HL.out] at E
        rw [show idxA (byteL s) b 62 = -1 by unfold idxA; rw [he, HL.out, if_pos (by omega)]] at IX
        clear HR2 he GOOD
        go_wp2_with fail
        refine (IX.out _).mono ?_
        rintro _ _ ⟨rfl, rfl⟩
        clear IX
        have RR := kd (RES.out _ B3.out)
        go_wp2_with (with_reducible refine wpList_storeG rfl 38 (.tmp 2) (.tmp 60) rfl RR.out [.string ⟨#[]⟩, .string ⟨#[]⟩, .string ⟨#[]⟩, .string ⟨#[]⟩, .int .i64 0, .slice none 0 0, .slice none 0 0, .slice none 0 0] rfl rfl (len8 _ _ _ _ _ _ _ _ _ _ _ _ _ _ _ _) (size8 _ _ _ _ _ _ _ _) (ad_one _ _ _ _ _) ?_)
        intro w9 R9 G9
        have BW9 := kd (GRO.out _ _ B3.out G9.out)
        go_wp2_with fail
        exact bodyPost_ret (results_cuv rfl _ _ _ w.heap.size [.string ⟨#[]⟩, .string ⟨#[]⟩, .string ⟨#[]⟩, .string ⟨#[]⟩, .int .i64 0, .slice none 0 0, .slice none 0 0, .slice none 0 0] _ rfl R9.out.range Tryz.underlying38 rfl (size8 _ _ _ _ _ _ _ _)) rfl (by exact BAD.out _ _ _ E.out BW9.out (by decide))
      · have HR := kd (HR2.out.trans (close_go he (by rw [HL.out]; exact hes)))
        rw [show idxA (byteL s) b 62 = (e : Int) by unfold idxA; rw [he, HL.out, if_neg (by omega)]] at IX
        have RD := kd (rrest_any s d (b + 1) e (e + 1) w3 u1 u2 (by omega) hs)
        clear HR2 he
        go_wp2_with fail
        refine (IX.out _).mono ?_
        rintro _ _ ⟨rfl, rfl⟩
        clear IX
        have HR0 := HR.out
        generalize restL (byteL s) d (b + 1) e (e + 1) = Q at *
        go_wp2_with fail
        refine RD.out.mono ?_
        clear RD
        cases Q with
        | error q =>
          obtain ⟨n, k⟩ := q
          rintro _ w1 ⟨rfl, hb1, hk⟩
          have E := kd (show R = .error (n, k) from HR0)
          have HK := kd hk
          have B1 := kd (bthen B3.out hb1)
          clear hb1 hk GOOD HR HR0
          dsimp only at HK
          have RR := kd (RES.out _ B1.out)
          go_wp2_with (with_reducible refine wpList_storeG rfl 38 (.tmp 2) (.tmp 71) rfl RR.out [.string ⟨#[]⟩, .string ⟨#[]⟩, .string ⟨#[]⟩, .string ⟨#[]⟩, .int .i64 0, .slice none 0 0, .slice none 0 0, .slice none 0 0] rfl rfl (len8 _ _ _ _ _ _ _ _ _ _ _ _ _ _ _ _) (size8 _ _ _ _ _ _ _ _) (ad_one _ _ _ _ _) ?_)
          intro w9 R9 G9
          have BW9 := kd (GRO.out _ _ B1.out G9.out)
          go_wp2_with fail
          exact bodyPost_ret (results_cuv rfl _ _ _ w.heap.size [.string ⟨#[]⟩, .string ⟨#[]⟩, .string ⟨#[]⟩, .string ⟨#[]⟩, .int .i64 0, .slice none 0 0, .slice none 0 0, .slice none 0 0] _ rfl R9.out.range Tryz.underlying38 rfl (size8 _ _ _ _ _ _ _ _)) rfl (by exact BAD.out _ _ _ E.out BW9.out HK.out)
        | ok d =>
          rintro _ w1 ⟨v1, v2, v3, rfl, x1, x2, x3⟩
          obtain ⟨A1, c1, hv1⟩ := own_slice x1.o
          obtain ⟨A2, c2, hv2⟩ := own_slice x2.o
          obtain ⟨A3, c3, hv3⟩ := own_slice x3.o
          subst hv1 hv2 hv3
          have E := kd (show R = .ok ⟨d.ds, d.u, d.ps⟩ from HR0)
          have B1 := kd (bthen B3.out x1.bw)
          have V1 := kd (x1.base B3.out); have V2 := kd (x2.base B3.out); have V3 := kd (x3.base B3.out)
          clear x1 x2 x3 BAD HR HR0
          have RR := kd (RES.out _ B1.out)
          go_wp2_with (with_reducible refine wpList_storeG rfl 38 (.tmp 2) (.tmp 71) rfl RR.out [.string (strOfNums d.ds), .string (strOfNums d.u.sc), .string (strOfNums d.u.us), .string (strOfNums d.u.ho), .int .i64 d.u.po, .slice A1 d.u.ps.length c1, .slice A2 d.u.hs.length c2, .slice A3 d.ps.length c3] rfl rfl (len8 _ _ _ _ _ _ _ _ _ _ _ _ _ _ _ _) (size8 _ _ _ _ _ _ _ _) (ad_one _ _ _ _ _) ?_)
          intro w9 R9 G9
          have BW9 := kd (GRO.out _ _ B1.out G9.out)
          have W1 := kd (vx_res V1.out WB0.out WBS.out G9.out BW9.out)
          have W2 := kd (vx_res V2.out WB0.out WBS.out G9.out BW9.out)
          have W3 := kd (vx_res V3.out WB0.out WBS.out G9.out BW9.out)
          go_wp2_with fail
          exact bodyPost_ret (results_cuv rfl _ _ _ w.heap.size [.string (strOfNums d.ds), .string (strOfNums d.u.sc), .string (strOfNums d.u.us), .string (strOfNums d.u.ho), .int .i64 d.u.po, .slice A1 d.u.ps.length c1, .slice A2 d.u.hs.length c2, .slice A3 d.ps.length c3] _ rfl R9.out.range Tryz.underlying38 rfl (size8 _ _ _ _ _ _ _ _)) rfl (by exact GOOD.out _ _ _ _ _ _ _ E.out W1.out W2.out W3.out)
end Go.Proofs.YthfonniieaiocaaGreatDoor
