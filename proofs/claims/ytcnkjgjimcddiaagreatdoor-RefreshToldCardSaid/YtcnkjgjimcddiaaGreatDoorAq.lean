/- Contract: refresh.Agree, where both headers read well. -/
import Derived.Test.YtcnkjgjimcddiaaGreatDoorAp
import Derived.Test.YtcnkjgjimcddiaaGreatDoorEa
import Derived.Lib.MinMax
namespace Go.Proofs.YtcnkjgjimcddiaaGreatDoor
open Go.RowKit

theorem sizeAg (a b c d : Value) : (Tryz.prog.info? 25).map (·.size) = some [a, b, c, d].length := show (Tryz.prog.info? 25).map (·.size) = some 4 by kernel_rfl
theorem ag_one (a b e : Int) (g : Bool) : ∀ u ∈ [Value.int .i64 a, .int .i64 b, .int .i64 e, .bool g], u.oneCell' = true := fun u hu => by
  simp at hu
  rcases hu with rfl | rfl | rfl | rfl <;> rfl
theorem max3_run {P : Program} (w : World) (ts : Array TypeId) (t : TypeId) (k k' k2 : IntKind) (x y z : Int) :
    (Builtin.max_ ts t #[.int k x, .int k' y, .int k2 z]).run P w = .ok (.int k (max (max x y) z)) w := by
  have e : (if y > x then y else x) = max x y := by rw [Int.max_def]; split <;> split <;> omega
  have e2 : (if z > max x y then z else max x y) = max (max x y) z := by rw [Int.max_def (max x y) z]; split <;> split <;> omega
  simp [Builtin.max_, Builtin.max2, e, e2]
attribute [go_sem high] max3_run
def SEXP : List Int := [83, 101, 115, 115, 105, 111, 110, 45, 69, 120, 112, 105, 114, 101, 115]
def MINSE : List Int := [77, 105, 110, 45, 83, 69]
def REFR : List Int := [114, 101, 102, 114, 101, 115, 104, 101, 114]
def clientL (l : List (ByteArray × ByteArray)) (ps : List Pm) : Bool := if (getPm ps REFR).getD [] = [117, 97, 99] then true else if (getPm ps REFR).getD [] = [117, 97, 115] then false else (allH l SUPP).contains TIMER
/-- What Agree answers: code, minimum, seconds, client, error. -/
structure Ans where
  k : Int
  m : Int
  s : Int
  c : Bool
  e : Int
def argBad (code least wish : Int) : Bool := (code != 0) || ((!ivl least) || ((wish != 0) && ((decide (wish < least)) || decide (86400 < wish))))
def agreeL (l : List (ByteArray × ByteArray)) (code least wish : Int) : Ans :=
  if argBad code least wish = true then ⟨0, 0, 0, false, 2⟩
  else if 86400 < (foundL l SEXP).n then ⟨0, 0, 0, false, 2⟩
  else if (foundL l SEXP).has = false then (if wish = 0 then ⟨0, 0, 0, false, 0⟩ else ⟨0, 0, min (max (max wish least) (foundL l MINSE).n) 86400, false, 0⟩)
  else if (foundL l SEXP).n < least then ⟨422, least, 0, false, 0⟩
  else ⟨0, 0, (foundL l SEXP).n, clientL l (foundL l SEXP).ps, 0⟩
def Ans.v (a : Ans) : Value := .tuple #[.agg #[.int .i64 a.k, .int .i64 a.m, .int .i64 a.s, .bool a.c], .int .u8 a.e]
theorem gotV_eq (X : Option (List Int)) : gotV X = .tuple #[.string (strOfNums (X.getD [])), .bool X.isSome] := by cases X <;> rfl
theorem paramsN_pm {X : List Int} (hX : By X) : ∀ (f a : Nat) (l r : List Pm), a ≤ X.length → (∀ p ∈ l, pmOK X.length p) → paramsN X f a l = .ok r → ∀ p ∈ r, pmOK X.length p
  | 0, _, l, r, _, hl, h => by
    injection h with h
    subst h
    exact hl
  | f + 1, a, l, r, ha, hl, h => by
    have a0s : skipTo isBlank X a ≤ X.length := skip_le ha
    by_cases h2 : X.length ≤ skipTo isBlank X a
    · rw [paramsN_end rfl h2] at h
      injection h with h
      subst h
      exact hl
    · by_cases h3 : X.getD (skipTo isBlank X a) 0 = 59
      · rw [paramsN_go rfl h2 h3 rfl] at h
        have a1s : skipTo isBlank X (skipTo isBlank X a + 1) ≤ X.length := skip_le (by omega)
        cases hq : listedL X (skipTo isBlank X (skipTo isBlank X a + 1)) with
        | error e => rw [hq] at h; cases h
        | ok q =>
          obtain ⟨p, a2⟩ := q
          rw [hq] at h
          dsimp only at h
          obtain ⟨b1, b2, b3, b4, b5, b6⟩ := listedL_ok hX a1s hq
          split at h
          · cases h
          · exact paramsN_pm hX f a2 (l ++ [p]) r b6 (fun q hq2 => by
              rcases List.mem_append.1 hq2 with h5 | h5
              · exact hl q h5
              · obtain rfl := List.mem_singleton.1 h5
                exact ⟨b1, b2, b3, b4⟩) h
      · rw [paramsN_sep rfl h2 h3] at h
        cases h
theorem itemL_pm {X0 t : List Int} {ps : List Pm} (hX : By X0) (hl : X0.length ≤ 4000000) (h : itemL X0 = .ok (t, ps)) : ∀ p ∈ ps, pmOK 4000000 p := by
  have hT := hX.sub (trimB_sub X0)
  have hT2 : (trimB X0).length ≤ 4000000 := Nat.le_trans (trimB_sub X0).length_le hl
  have key : ∃ e, paramsL ((trimB X0).drop e) = .ok ps := by
    rw [itemL_eq rfl rfl rfl] at h
    split at h
    · cases h
    split at h
    · split at h
      · cases h
      · split at h
        · cases h
        · rename_i hq
          injection h with h
          injection h with h1 h2
          subst h2
          exact ⟨_, hq⟩
    · split at h
      · cases h
      · rename_i hq
        injection h with h
        injection h with h1 h2
        subst h2
        exact ⟨_, hq⟩
  obtain ⟨e, he⟩ := key
  intro p hp
  obtain ⟨h1, h2, h3, h4⟩ := paramsN_pm (hT.sub (List.drop_sublist e _)) _ 0 [] ps (Nat.zero_le _) (fun p hp => by cases hp) he p hp
  rw [List.length_drop] at h3 h4
  exact ⟨h1, h2, by omega, by omega⟩
theorem foundL_pm {l : List (ByteArray × ByteArray)} {n : Nat} (hl : HdOK l n) (nm : List Int) : ∀ p ∈ (foundL l nm).ps, pmOK 4000000 p := by
  unfold foundL
  cases hg : getH l nm with
  | none => intro p hp; cases hp
  | some k =>
    dsimp only
    unfold foundV
    obtain ⟨h1, _⟩ := List.findIdx?_eq_some_iff_getElem.1 hg
    have h2 : l.getD k (⟨#[]⟩, ⟨#[]⟩) ∈ l := by
      rw [List.getD_eq_getElem?_getD, List.getElem?_eq_getElem h1]
      exact List.getElem_mem _
    have h3 := (hl.hs _ h2).2.1
    cases hi : itemL (byteL (l.getD k (⟨#[]⟩, ⟨#[]⟩)).2) with
    | error e => intro p hp; cases hp
    | ok q =>
      obtain ⟨t, ps⟩ := q
      exact itemL_pm (byteL_by _) (by rw [byteL_len]; exact h3) hi
theorem getPm_by {l : List Pm} {nm : List Int} (hl : ∀ p ∈ l, pmOK 4000000 p) : By ((getPm l nm).getD []) := by
  unfold getPm
  cases h : l.find? fun p => lowS p.n == lowS nm with
  | none => exact fun x hx => by cases hx
  | some p => exact (hl p (List.mem_of_find?_eq_some h)).2.1
theorem reader_any (ms uri rsn : ByteArray) (code : Int) (A B : Option Addr) (n c m d : Nat) (w : World) :
    Calls Tryz.prog 32 #[.agg #[.string ms, .string uri, .int .i64 code, .string rsn, .slice A n c, .slice B m d]] w fun e w' => e = .returned (.func (.func 41) #[] #[.pointer (some ⟨w.heap.size, 0, none⟩)]) ∧ w' = w.alloc (.cells #[.string ms, .string uri, .int .i64 code, .string rsn, .slice A n c, .slice B m d] 51) := by
  go_enter Tryz.func32, Tryz.ntmps32
  go_wp2_with fail
  go_ret
  exact ⟨rfl, rfl⟩
set_option maxRecDepth 100000 in
set_option maxHeartbeats 4000000 in
theorem agree_any (ms uri rsn : ByteArray) (code least wish : Int) (A B : Option Addr) (n c m d : Nat) (l : List (ByteArray × ByteArray)) (w : World) (hA : Rds w w.heap.size A (hds l)) (hl : HdOK l n) (hS : SC w) (hK : KD w) (h1 : (foundL l SEXP).e = 0) (h2 : (foundL l MINSE).e = 0) :
    Calls Tryz.prog 22 #[.agg #[.string ms, .string uri, .int .i64 code, .string rsn, .slice A n c, .slice B m d], .int .i64 least, .int .i64 wish] w fun e w' => e = .returned (agreeL l code least wish).v ∧ Below w.heap.size w w' := by
  have HF := Lib.hid hl; have HS := Lib.hid hS; have HK := Lib.hid hK; have HA := Lib.hid hA
  have PMO := Lib.hid (foundL_pm hl SEXP)
  have EV := Lib.hid (show agreeL l code least wish = if argBad code least wish = true then ⟨0, 0, 0, false, 2⟩
  else if 86400 < (foundL l SEXP).n then ⟨0, 0, 0, false, 2⟩
  else if (foundL l SEXP).has = false then (if wish = 0 then ⟨0, 0, 0, false, 0⟩ else ⟨0, 0, min (max (max wish least) (foundL l MINSE).n) 86400, false, 0⟩)
  else if (foundL l SEXP).n < least then ⟨422, least, 0, false, 0⟩
  else ⟨0, 0, (foundL l SEXP).n, clientL l (foundL l SEXP).ps, 0⟩ from rfl)
  generalize agreeL l code least wish = R at *
  have R3 := Lib.hid ((Row.new w 51 [.string ms, .string uri, .int .i64 code, .string rsn, .slice A n c, .slice B m d]).alloc (.cells #[.int .i64 0, .int .i64 0, .int .i64 0, .bool false] 25))
  have R6 := Lib.hid (show Row ((w.alloc (.cells #[.string ms, .string uri, .int .i64 code, .string rsn, .slice A n c, .slice B m d] 51)).alloc (.cells #[.int .i64 0, .int .i64 0, .int .i64 0, .bool false] 25)) (w.heap.size + 1) 25 [.int .i64 0, .int .i64 0, .int .i64 0, .bool false] by
    have h := Row.new (w.alloc (.cells #[.string ms, .string uri, .int .i64 code, .string rsn, .slice A n c, .slice B m d] 51)) 25 [.int .i64 0, .int .i64 0, .int .i64 0, .bool false]
    rwa [World.size_alloc] at h)
  have B0 := Lib.hid (show Below w.heap.size w ((w.alloc (.cells #[.string ms, .string uri, .int .i64 code, .string rsn, .slice A n c, .slice B m d] 51)).alloc (.cells #[.int .i64 0, .int .i64 0, .int .i64 0, .bool false] 25)) from ((Below.refl _ _).alloc (Nat.le_refl _) _).alloc (by simp) _)
  clear hA hl hS hK
  have AB := Lib.hid (show argBad code least wish = ((code != 0) || ((!ivl least) || ((wish != 0) && ((decide (wish < least)) || decide (86400 < wish))))) from rfl)
  cases hb : argBad code least wish with
  | true =>
    have E := Lib.hid (show R = ⟨0, 0, 0, false, 2⟩ from EV.out.trans (if_pos hb))
    rw [hb] at AB
    have RR := R6; have BB := B0
    have c2 : ((w.alloc (.cells #[.string ms, .string uri, .int .i64 code, .string rsn, .slice A n c, .slice B m d] 51)).alloc (.cells #[.int .i64 0, .int .i64 0, .int .i64 0, .bool false] 25)).cell? ⟨w.heap.size, 2, none⟩ = some (.int .i64 code) := R3.out.cell 2
    clear EV hb PMO
    cases k1 : (code != 0) <;> cases k2 : ivl least <;> cases k3 : (wish != 0) <;> cases k4 : decide (wish < least) <;> cases k5 : decide (86400 < wish)
    all_goals first
      | (exfalso; have h := AB.out; rw [k1, k2, k3, k4, k5] at h; exact absurd h (by decide))
      | skip
    all_goals
      have K2 := Lib.hid k2
      clear k2 AB
      go_enter Tryz.func22, Tryz.ntmps22
      go_upto_region 1 with (fail)
      generalize (w.alloc (.cells #[.string ms, .string uri, .int .i64 code, .string rsn, .slice A n c, .slice B m d] 51)).alloc (.cells #[.int .i64 0, .int .i64 0, .int .i64 0, .bool false] 25) = W at *
      go_upto_region 2 with (go_at_call 25; refine (isivl_any _ _).mono ?_; rintro e w' ⟨rfl, rfl⟩; rw [K2.out])
      go_wp2_with (first
        | (with_reducible refine wpList_storeR rfl 25 (.tmp 6) (.tmp 36) rfl RR.out [.int .i64 0, .int .i64 0, .int .i64 0, .bool false] rfl rfl (lenFd _ _ _ _ _ _ _ _) (sizeAg _ _ _ _) (ag_one _ _ _ _) BB.out (Nat.le_succ _) ?_))
      intro w9 R9 B9 _
      go_wp2_with fail
      exact bodyPost_ret (results_ct rfl _ _ _ (w.heap.size + 1) [.int .i64 0, .int .i64 0, .int .i64 0, .bool false] _ rfl R9.out.range Tryz.underlying25 rfl (sizeAg _ _ _ _)) rfl (by exact ⟨by rw [E.out]; rfl, B9.out⟩)
  | false =>
  have EV1 := Lib.hid (EV.out.trans (if_neg (by rw [hb]; decide)))
  rw [hb] at AB
  have ABo := AB.out
  have k1 : (code != 0) = false := by
    cases h : (code != 0) with
    | false => rfl
    | true => rw [h] at ABo; exact absurd ABo (by simp)
  have k2 : ivl least = true := by
    cases h : ivl least with
    | true => rfl
    | false => rw [k1, h] at ABo; exact absurd ABo (by simp)
  have k3 : (wish != 0) = false ∨ ((wish != 0) = true ∧ decide (wish < least) = false ∧ decide (86400 < wish) = false) := by
    cases h : (wish != 0) with
    | false => exact .inl rfl
    | true =>
      refine .inr ⟨rfl, ?_, ?_⟩
      · cases h5 : decide (wish < least) with
        | false => rfl
        | true => rw [k1, k2, h, h5] at ABo; exact absurd ABo (by simp)
      · cases h5 : decide (86400 < wish) with
        | false => rfl
        | true => rw [k1, k2, h, h5] at ABo; exact absurd ABo (by simp)
  have K2 := Lib.hid k2
  clear k2 ABo AB EV hb
  have c2 : ((w.alloc (.cells #[.string ms, .string uri, .int .i64 code, .string rsn, .slice A n c, .slice B m d] 51)).alloc (.cells #[.int .i64 0, .int .i64 0, .int .i64 0, .bool false] 25)).cell? ⟨w.heap.size, 2, none⟩ = some (.int .i64 code) := R3.out.cell 2
  go_enter Tryz.func22, Tryz.ntmps22
  go_upto_region 1 with (fail)
  generalize (w.alloc (.cells #[.string ms, .string uri, .int .i64 code, .string rsn, .slice A n c, .slice B m d] 51)).alloc (.cells #[.int .i64 0, .int .i64 0, .int .i64 0, .bool false] 25) = W at *
  have HA0 := Lib.hid ((HA.out.below B0.out).up B0.out.size); have HS0 := Lib.hid (HS.out.below B0.out); have HK0 := Lib.hid (HK.out.below B0.out)
  clear HA HS HK
  go_cut [35] from 15 to 101 (fun v wx => v = .bool false ∧ wx = W)
  case first =>
    rcases k3 with k3 | ⟨k3, k4, k5⟩
    all_goals
      go_wp2_with (go_at_call 25; refine (isivl_any _ _).mono ?_; rintro e w' ⟨rfl, rfl⟩; rw [K2.out])
      go_meet
      exact ⟨rfl, rfl⟩
  case rest =>
    obtain ⟨rfl, hc0⟩ := hcut
    have hc := hc0.symm
    clear hc0
    subst hc
    clear k1 k3 c2
    go_wp2_with (with_reducible refine wpList_loadR rfl 51 (.tmp 3) rfl R3.out rfl Tryz.underlying51 rfl (size6m _ _ _ _ _ _) ?_)
    refine (reader_any ms uri rsn code A B n c m d W).mono ?_
    rintro e W1 ⟨rfl, rfl⟩
    have BN := Lib.hid ((Below.refl W.heap.size W).alloc (Nat.le_refl _) (.cells #[.string ms, .string uri, .int .i64 code, .string rsn, .slice A n c, .slice B m d] 51))
    have RB1 := Lib.hid (Row.new W 51 [.string ms, .string uri, .int .i64 code, .string rsn, .slice A n c, .slice B m d])
    have R31 := Lib.hid (R3.out.below BN.out); have R61 := Lib.hid (R6.out.below BN.out); have B1 := Lib.hid (bthen B0.out BN.out)
    have HA1 := Lib.hid ((HA0.out.below BN.out).up BN.out.size); have HS1 := Lib.hid (HS0.out.below BN.out); have HK1 := Lib.hid (HK0.out.below BN.out)
    clear R3 R6 B0 HA0 HS0 HK0 BN
    generalize W.alloc (.cells #[.string ms, .string uri, .int .i64 code, .string rsn, .slice A n c, .slice B m d] 51) = W1 at *
    generalize W.heap.size = mb at *
    go_wp2_with fail
    have FQ := Lib.hid (found_any ms uri rsn ⟨#[83, 101, 115, 115, 105, 111, 110, 45, 69, 120, 112, 105, 114, 101, 115]⟩ code A B n c m d mb l W1 RB1.out HA1.out HF.out (by decide) HS1.out)
    rw [show byteL ⟨#[83, 101, 115, 115, 105, 111, 110, 45, 69, 120, 112, 105, 114, 101, 115]⟩ = SEXP from rfl] at FQ
    obtain ⟨⟨ih, inn, ips, ie⟩, hI⟩ : ∃ I, foundL l SEXP = I := ⟨_, rfl⟩
    obtain ⟨⟨jh, jn, jps, je⟩, hJ⟩ : ∃ J, foundL l MINSE = J := ⟨_, rfl⟩
    rw [hI] at FQ EV1 PMO h1
    rw [hJ] at EV1 h2
    have HJ := Lib.hid hJ
    dsimp only at EV1 h1 h2 PMO
    subst h1; subst h2
    clear hI hJ
    refine FQ.out.mono ?_
    clear FQ
    rintro e W2 ⟨A2, c2, rfl, hb, hr, hl16, hfr⟩
    dsimp only at hr hl16 ⊢
    have RB2 := Lib.hid (RB1.out.below hb); have R32 := Lib.hid (R31.out.below hb); have R62 := Lib.hid (R61.out.below hb); have B2 := Lib.hid (bthen B1.out hb)
    have HA2 := Lib.hid ((HA1.out.below hb).up hb.size); have HS2 := Lib.hid (HS1.out.below hb); have HK2 := Lib.hid (HK1.out.below hb); have P2 := Lib.hid hr
    clear RB1 R31 R61 B1 HA1 HS1 HK1 hb hr hfr
    go_wp2_with fail
    have FQ := Lib.hid (found_any ms uri rsn ⟨#[77, 105, 110, 45, 83, 69]⟩ code A B n c m d mb l W2 RB2.out HA2.out HF.out (by decide) HS2.out)
    rw [show byteL ⟨#[77, 105, 110, 45, 83, 69]⟩ = MINSE from rfl, HJ.out] at FQ
    refine FQ.out.mono ?_
    clear FQ HJ
    rintro e W3 ⟨A3, c3, rfl, hb, _, _, _⟩
    dsimp only
    have R33 := Lib.hid (R32.out.below hb); have R63 := Lib.hid (R62.out.below hb); have B3 := Lib.hid (bthen B2.out hb)
    have HA3 := Lib.hid ((HA2.out.below hb).up hb.size); have HS3 := Lib.hid (HS2.out.below hb); have HK3 := Lib.hid (HK2.out.below hb); have P3 := Lib.hid ((P2.out.below hb).up hb.size)
    clear RB2 R32 R62 B2 HA2 HS2 HK2 P2 hb
    generalize hil : ips.length = il at *
    have HIL := Lib.hid hil
    generalize jps.length = jl at *
    clear hil
    have BN := Lib.hid (show Below W3.heap.size W3 ((W3.alloc (.cells #[.bool ih, .int .i64 inn, .slice A2 il c2, .int .u8 0] 65)).alloc (.cells #[.bool jh, .int .i64 jn, .slice A3 jl c3, .int .u8 0] 65)) from ((Below.refl _ _).alloc (Nat.le_refl _) _).alloc (by simp) _)
    have RI := Lib.hid ((Row.new W3 65 [.bool ih, .int .i64 inn, .slice A2 il c2, .int .u8 0]).alloc (.cells #[.bool jh, .int .i64 jn, .slice A3 jl c3, .int .u8 0] 65))
    have RJ := Lib.hid (show Row ((W3.alloc (.cells #[.bool ih, .int .i64 inn, .slice A2 il c2, .int .u8 0] 65)).alloc (.cells #[.bool jh, .int .i64 jn, .slice A3 jl c3, .int .u8 0] 65)) (W3.heap.size + 1) 65 [.bool jh, .int .i64 jn, .slice A3 jl c3, .int .u8 0] by
      have h := Row.new (W3.alloc (.cells #[.bool ih, .int .i64 inn, .slice A2 il c2, .int .u8 0] 65)) 65 [.bool jh, .int .i64 jn, .slice A3 jl c3, .int .u8 0]
      rwa [World.size_alloc] at h)
    go_upto_region 5 with (fail)
    generalize (W3.alloc (.cells #[.bool ih, .int .i64 inn, .slice A2 il c2, .int .u8 0] 65)).alloc (.cells #[.bool jh, .int .i64 jn, .slice A3 jl c3, .int .u8 0] 65) = W5 at *
    have R3 := Lib.hid (R33.out.below BN.out); have RR := Lib.hid (R63.out.below BN.out); have BB := Lib.hid (bthen B3.out BN.out)
    have HA := Lib.hid ((HA3.out.below BN.out).up BN.out.size); have HS := Lib.hid (HS3.out.below BN.out); have HK := Lib.hid (HK3.out.below BN.out); have PP := Lib.hid ((P3.out.below BN.out).up BN.out.size)
    clear R33 R63 B3 HA3 HS3 HK3 P3 BN
    generalize W3.heap.size = ib at *
    have i0 := RI.out.cell 0
    have i1 := RI.out.cell 1
    have i2 := RI.out.cell 2
    have i3 := RI.out.cell 3
    have j1 := RJ.out.cell 1
    have j3 := RJ.out.cell 3
    simp only [List.getElem?_cons_succ, List.getElem?_cons_zero] at i0 i1 i2 i3 j1 j3
    by_cases hbig : 86400 < inn
    · have E := Lib.hid (EV1.out.trans (if_pos hbig))
      have d1 : decide (86400 < inn) = true := by simp [hbig]
      clear EV1 hbig
      go_wp2_with (first
        | (with_reducible refine wpList_storeR rfl 25 (.tmp 6) (.tmp 61) rfl RR.out [.int .i64 0, .int .i64 0, .int .i64 0, .bool false] rfl rfl (lenFd _ _ _ _ _ _ _ _) (sizeAg _ _ _ _) (ag_one _ _ _ _) BB.out (Nat.le_succ _) ?_))
      intro w9 R9 B9 _
      go_wp2_with fail
      exact bodyPost_ret (results_ct rfl _ _ _ (w.heap.size + 1) [.int .i64 0, .int .i64 0, .int .i64 0, .bool false] _ rfl R9.out.range Tryz.underlying25 rfl (sizeAg _ _ _ _)) rfl (by exact ⟨by rw [E.out]; rfl, B9.out⟩)
    have EV2 := Lib.hid (EV1.out.trans (if_neg hbig))
    have d1 : decide (86400 < inn) = false := by simpa using hbig
    clear EV1 hbig
    cases ih with
    | false =>
      have EV3 := Lib.hid (EV2.out.trans (if_pos rfl))
      clear EV2
      by_cases hw : wish = 0
      · have E := Lib.hid (EV3.out.trans (if_pos hw))
        have d2 : (wish == 0) = true := by simp [hw]
        clear EV3 hw
        go_wp2_with (first
          | (with_reducible refine wpList_storeR rfl 25 (.tmp 6) (.tmp 67) rfl RR.out [.int .i64 0, .int .i64 0, .int .i64 0, .bool false] rfl rfl (lenFd _ _ _ _ _ _ _ _) (sizeAg _ _ _ _) (ag_one _ _ _ _) BB.out (Nat.le_succ _) ?_))
        intro w9 R9 B9 _
        go_wp2_with fail
        exact bodyPost_ret (results_ct rfl _ _ _ (w.heap.size + 1) [.int .i64 0, .int .i64 0, .int .i64 0, .bool false] _ rfl R9.out.range Tryz.underlying25 rfl (sizeAg _ _ _ _)) rfl (by exact ⟨by rw [E.out]; rfl, B9.out⟩)
      · have E := Lib.hid (EV3.out.trans (if_neg hw))
        have d2 : (wish == 0) = false := by simp [hw]
        obtain ⟨mx, hmx⟩ : ∃ mx, max (max wish least) jn = mx := ⟨_, rfl⟩
        rw [hmx] at E
        clear EV3 hw
        go_wp2_with (first
          | (go_at_call 33; (try rw [hmx]); refine (smaller_any _ _ _).mono ?_; rintro e w' ⟨rfl, rfl⟩)| (with_reducible refine wpList_storeR rfl 25 (.tmp 6) (.tmp 75) rfl RR.out [.int .i64 0, .int .i64 0, .int .i64 (min mx 86400), .bool false] rfl rfl (lenFd _ _ _ _ _ _ _ _) (sizeAg _ _ _ _) (ag_one _ _ _ _) BB.out (Nat.le_succ _) ?_))
        intro w9 R9 B9 _
        go_wp2_with fail
        exact bodyPost_ret (results_ct rfl _ _ _ (w.heap.size + 1) [.int .i64 0, .int .i64 0, .int .i64 (min mx 86400), .bool false] _ rfl R9.out.range Tryz.underlying25 rfl (sizeAg _ _ _ _)) rfl (by exact ⟨by rw [E.out]; rfl, B9.out⟩)
    | true =>
      have EV3 := Lib.hid (EV2.out.trans (if_neg (by decide)))
      clear EV2
      by_cases hlt : inn < least
      · have E := Lib.hid (EV3.out.trans (if_pos hlt))
        have d2 : decide (inn < least) = true := by simp [hlt]
        clear EV3 hlt
        go_wp2_with (first
          | (with_reducible refine wpList_storeR rfl 25 (.tmp 6) (.tmp 81) rfl RR.out [.int .i64 422, .int .i64 least, .int .i64 0, .bool false] rfl rfl (lenFd _ _ _ _ _ _ _ _) (sizeAg _ _ _ _) (ag_one _ _ _ _) BB.out (Nat.le_succ _) ?_))
        intro w9 R9 B9 _
        go_wp2_with fail
        exact bodyPost_ret (results_ct rfl _ _ _ (w.heap.size + 1) [.int .i64 422, .int .i64 least, .int .i64 0, .bool false] _ rfl R9.out.range Tryz.underlying25 rfl (sizeAg _ _ _ _)) rfl (by exact ⟨by rw [E.out]; rfl, B9.out⟩)
      have EV4 := Lib.hid (EV3.out.trans (if_neg hlt))
      have d2 : decide (inn < least) = false := by simpa using hlt
      clear EV3 hlt
      have BN := Lib.hid ((Below.refl W5.heap.size W5).alloc (Nat.le_refl _) (.cells #[.int .i64 0, .int .i64 0, .int .i64 inn, .bool false] 25))
      have RA := Lib.hid (Row.new W5 25 [.int .i64 0, .int .i64 0, .int .i64 inn, .bool false])
      have i2b := (RI.out.below BN.out).cell 2
      simp only [List.getElem?_cons_succ, List.getElem?_cons_zero] at i2b
      go_upto_region 19 with (fail)
      generalize W5.alloc (.cells #[.int .i64 0, .int .i64 0, .int .i64 inn, .bool false] 25) = W6 at *
      have R3' := Lib.hid (R3.out.below BN.out); have RR' := Lib.hid (RR.out.below BN.out); have BB' := Lib.hid (bthen BB.out BN.out)
      have HA' := Lib.hid ((HA.out.below BN.out).up BN.out.size); have HS' := Lib.hid (HS.out.below BN.out); have HK' := Lib.hid (HK.out.below BN.out); have PP' := Lib.hid ((PP.out.below BN.out).up BN.out.size)
      have ABL := Lib.hid (show w.heap.size + 1 < W5.heap.size from RR.out.lt)
      clear R3 RR BB HA HS HK PP BN i0 i1 i2 i3 j1 j3 RI RJ
      generalize W5.heap.size = ab at *
      have GQ := Lib.hid (adget_any A2 il c2 ips REFR W6 PP'.out HIL.out (by omega) (fun p hp => ⟨(PMO.out p hp).1, (PMO.out p hp).2.2.1⟩) (by unfold By REFR; decide) (by decide))
      rw [gotV_eq, show strOfNums REFR = ⟨#[114, 101, 102, 114, 101, 115, 104, 101, 114]⟩ from rfl] at GQ
      have CL := Lib.hid (show clientL l ips = if (getPm ips REFR).getD [] = [117, 97, 99] then true else if (getPm ips REFR).getD [] = [117, 97, 115] then false else (allH l SUPP).contains TIMER from rfl)
      have RBY := getPm_by (nm := REFR) PMO.out
      generalize clientL l ips = CC at *
      generalize getPm ips REFR = X at *
      have q1 := Lib.hid (lit_beq RBY [117, 97, 99]); have q2 := Lib.hid (lit_beq RBY [117, 97, 115])
      clear RBY
      generalize X.isSome = xs at *
      generalize X.getD [] = rv at *
      go_wp2_with fail
      refine GQ.out.mono ?_
      clear GQ i2b
      rintro e W7 ⟨rfl, hb⟩
      have R3 := Lib.hid (R3'.out.below hb); have RR := Lib.hid (RR'.out.below hb); have BB := Lib.hid (bthen BB'.out hb)
      have HA := Lib.hid ((HA'.out.below hb).up hb.size); have HS := Lib.hid (HS'.out.below hb); have HK := Lib.hid (HK'.out.below hb); have RA7 := Lib.hid (RA.out.below hb)
      clear R3' RR' BB' HA' HS' HK' PP' hb RA
      have k3 := RA7.out.cell 3
      simp only [List.getElem?_cons_succ, List.getElem?_cons_zero] at k3
      have f3 := RA7.out.frozen 3
      by_cases c1 : rv = [117, 97, 99]
      · have E := Lib.hid (show R = ⟨0, 0, inn, true, 0⟩ by rw [EV4.out, CL.out, if_pos c1])
        have s1 : ((strOfNums rv).toList == ([117, 97, 99] : List UInt8)) = true := q1.out.trans (by rw [c1]; rfl)
        have RAS := Lib.hid (show Row (W7.setCell ⟨ab, 3, none⟩ (.bool true)) ab 25 [.int .i64 0, .int .i64 0, .int .i64 inn, .bool true] from RA7.out.set 3 _)
        have RRS := Lib.hid (RR.out.setOther (p := ab) (i := 3) (by have := ABL.out; omega) (.bool true))
        have BBS := Lib.hid (BB.out.setCell (p := ⟨ab, 3, none⟩) (by have := ABL.out; show w.heap.size ≤ ab; omega) (.bool true))
        clear EV4 CL c1 q1 q2
        go_upto_region 26 with (fail)
        clear k3 f3 RR BB RA7 s1
        generalize W7.setCell ⟨ab, 3, none⟩ (.bool true) = W8 at *
        have RR := RRS; have BB := BBS
        go_wp2_with (first
          | (with_reducible refine wpList_loadR rfl 25 (.tmp 12) rfl RAS.out rfl Tryz.underlying25 rfl (sizeAg _ _ _ _) ?_)| (with_reducible refine wpList_storeR rfl 25 (.tmp 6) (.tmp 101) rfl RR.out [.int .i64 0, .int .i64 0, .int .i64 inn, .bool true] rfl rfl (lenFd _ _ _ _ _ _ _ _) (sizeAg _ _ _ _) (ag_one _ _ _ _) BB.out (Nat.le_succ _) ?_))
        intro w9 R9 B9 _
        go_wp2_with fail
        exact bodyPost_ret (results_ct rfl _ _ _ (w.heap.size + 1) [.int .i64 0, .int .i64 0, .int .i64 inn, .bool true] _ rfl R9.out.range Tryz.underlying25 rfl (sizeAg _ _ _ _)) rfl (by exact ⟨by rw [E.out]; rfl, B9.out⟩)
      have s1 : ((strOfNums rv).toList == ([117, 97, 99] : List UInt8)) = false := q1.out.trans (by rw [beq_eq_false_iff_ne]; exact fun h => c1 (h.symm.trans rfl))
      by_cases c2 : rv = [117, 97, 115]
      · have E := Lib.hid (show R = ⟨0, 0, inn, false, 0⟩ by rw [EV4.out, CL.out, if_neg c1, if_pos c2])
        have s2 : ((strOfNums rv).toList == ([117, 97, 115] : List UInt8)) = true := q2.out.trans (by rw [c2]; rfl)
        have RAS := Lib.hid (show Row (W7.setCell ⟨ab, 3, none⟩ (.bool false)) ab 25 [.int .i64 0, .int .i64 0, .int .i64 inn, .bool false] from RA7.out.set 3 _)
        have RRS := Lib.hid (RR.out.setOther (p := ab) (i := 3) (by have := ABL.out; omega) (.bool false))
        have BBS := Lib.hid (BB.out.setCell (p := ⟨ab, 3, none⟩) (by have := ABL.out; show w.heap.size ≤ ab; omega) (.bool false))
        clear EV4 CL c1 c2 q1 q2
        go_upto_region 26 with (fail)
        clear k3 f3 RR BB RA7 s1 s2
        generalize W7.setCell ⟨ab, 3, none⟩ (.bool false) = W8 at *
        have RR := RRS; have BB := BBS
        go_wp2_with (first
          | (with_reducible refine wpList_loadR rfl 25 (.tmp 12) rfl RAS.out rfl Tryz.underlying25 rfl (sizeAg _ _ _ _) ?_)| (with_reducible refine wpList_storeR rfl 25 (.tmp 6) (.tmp 101) rfl RR.out [.int .i64 0, .int .i64 0, .int .i64 inn, .bool false] rfl rfl (lenFd _ _ _ _ _ _ _ _) (sizeAg _ _ _ _) (ag_one _ _ _ _) BB.out (Nat.le_succ _) ?_))
        intro w9 R9 B9 _
        go_wp2_with fail
        exact bodyPost_ret (results_ct rfl _ _ _ (w.heap.size + 1) [.int .i64 0, .int .i64 0, .int .i64 inn, .bool false] _ rfl R9.out.range Tryz.underlying25 rfl (sizeAg _ _ _ _)) rfl (by exact ⟨by rw [E.out]; rfl, B9.out⟩)
      have s2 : ((strOfNums rv).toList == ([117, 97, 115] : List UInt8)) = false := q2.out.trans (by rw [beq_eq_false_iff_ne]; exact fun h => c2 (h.symm.trans rfl))
      have SQ := Lib.hid (supports_any ms uri rsn code A B n c m d l W7 HA.out HF.out HS.out HK.out)
      have E := Lib.hid (show R = ⟨0, 0, inn, (allH l SUPP).contains TIMER, 0⟩ by rw [EV4.out, CL.out, if_neg c1, if_neg c2])
      generalize (allH l SUPP).contains TIMER = sp at *
      clear EV4 CL c1 c2 q1 q2 k3 f3
      go_wp2_with (with_reducible refine wpList_loadR rfl 51 (.tmp 3) rfl R3.out rfl Tryz.underlying51 rfl (size6m _ _ _ _ _ _) ?_)
      refine SQ.out.mono ?_
      clear SQ s1 s2
      rintro e W8 ⟨rfl, hb⟩
      have RA8 := Lib.hid (RA7.out.below hb); have RR8 := Lib.hid (RR.out.below hb); have BB8 := Lib.hid (bthen BB.out hb)
      have k3 := RA8.out.cell 3
      simp only [List.getElem?_cons_succ, List.getElem?_cons_zero] at k3
      have f3 := RA8.out.frozen 3
      have RAS := Lib.hid (show Row (W8.setCell ⟨ab, 3, none⟩ (.bool sp)) ab 25 [.int .i64 0, .int .i64 0, .int .i64 inn, .bool sp] from RA8.out.set 3 _)
      have RRS := Lib.hid (RR8.out.setOther (p := ab) (i := 3) (by have := ABL.out; omega) (.bool sp))
      have BBS := Lib.hid (BB8.out.setCell (p := ⟨ab, 3, none⟩) (by have := ABL.out; show w.heap.size ≤ ab; omega) (.bool sp))
      clear hb RR BB RA7
      go_upto_region 26 with (fail)
      clear k3 f3 RR8 BB8 RA8
      generalize W8.setCell ⟨ab, 3, none⟩ (.bool sp) = W9 at *
      have RR := RRS; have BB := BBS
      go_wp2_with (first
        | (with_reducible refine wpList_loadR rfl 25 (.tmp 12) rfl RAS.out rfl Tryz.underlying25 rfl (sizeAg _ _ _ _) ?_)| (with_reducible refine wpList_storeR rfl 25 (.tmp 6) (.tmp 101) rfl RR.out [.int .i64 0, .int .i64 0, .int .i64 inn, .bool sp] rfl rfl (lenFd _ _ _ _ _ _ _ _) (sizeAg _ _ _ _) (ag_one _ _ _ _) BB.out (Nat.le_succ _) ?_))
      intro w9 R9 B9 _
      go_wp2_with fail
      exact bodyPost_ret (results_ct rfl _ _ _ (w.heap.size + 1) [.int .i64 0, .int .i64 0, .int .i64 inn, .bool sp] _ rfl R9.out.range Tryz.underlying25 rfl (sizeAg _ _ _ _)) rfl (by exact ⟨by rw [E.out]; rfl, B9.out⟩)
end Go.Proofs.YtcnkjgjimcddiaaGreatDoor
