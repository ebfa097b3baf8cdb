/- Contract: address.ParseAddress. -/
import Derived.Test.YthfonniieaiocaaGreatDoorUw
set_option linter.unusedVariables false
set_option linter.unusedSimpArgs false
namespace Go.Proofs.YthfonniieaiocaaGreatDoor
open Go.RowKit

def adr3 (xs d : List Int) (u : Uri) (c : Nat) : Except (Nat × Int) Adr := match parsL (xs.drop c) with
  | .error q => .error (c + q.1, q.2)
  | .ok l => .ok ⟨d, u, l⟩
def adr2 (xs d : List Int) (b : Nat) : Except (Nat × Int) Adr := match aimL xs b with
  | .error e => .error e
  | .ok q => adr3 xs d q.1 q.2
theorem adr_eq (xs : List Int) : adrL xs = if 1024 < xs.length then .error (1024, 4) else match nameL xs with
  | .error e => .error e
  | .ok q => adr2 xs q.1 q.2 := by
  unfold adrL adr2 adr3
  split
  · rfl
  · cases nameL xs with
    | error e => rfl
    | ok q =>
      obtain ⟨d, a⟩ := q
      dsimp only
      cases aimL xs a with
      | error e => rfl
      | ok q =>
        obtain ⟨u, b⟩ := q
        dsimp only
        cases parsL (xs.drop b) with
        | error e => obtain ⟨i, k⟩ := e; rfl
        | ok l => rfl
theorem aim_le {xs : List Int} {a : Nat} (ha : a ≤ xs.length) {u : Uri} {c : Nat} (h : aimL xs a = .ok (u, c)) : c ≤ xs.length := by
  cases h60 : atL xs a 60 with
  | true =>
    have a1 := (atL_lt (xs := xs) (a := a) (c := 60) (by rw [h60]; decide)).1
    obtain ⟨u1, u2⟩ := until_le (xs := xs) (a := a + 1) (st := [62]) a1
    rw [aim_in h60 rfl] at h
    split at h
    · cases h
    · unfold aimX at h
      split at h
      · cases h
      · injection h with h
        injection h with _ h
        omega
  | false =>
    obtain ⟨u1, u2⟩ := until_le (xs := xs) (a := a) (st := [59, 32, 9]) ha
    rw [aim_out h60 rfl rfl] at h
    split at h
    · cases h
    · unfold aimX at h
      split at h
      · cases h
      · injection h with h
        injection h with _ h
        omega
def AdrP (w : World) (R : Except (Nat × Int) Adr) (e : Ending) (w' : World) : Prop := match R with
  | .error q => e = .returned (.tuple #[.agg #[.string ⟨#[]⟩, .string ⟨#[]⟩, .string ⟨#[]⟩, .string ⟨#[]⟩, .int .i64 0, .slice none 0 0, .slice none 0 0, .slice none 0 0], .int .i64 (q.1 : Nat), .int .u8 q.2]) ∧ Below w.heap.size w w' ∧ q.2 ≠ 0
  | .ok a => ∃ v1 v2 v3, e = .returned (.tuple #[.agg #[.string (strOfNums a.ds), .string (strOfNums a.u.sc), .string (strOfNums a.u.us), .string (strOfNums a.u.ho), .int .i64 a.u.po, v1, v2, v3], .int .i64 0, .int .u8 0]) ∧ VX 56 3 w v1 a.u.ps.length (pms a.u.ps) w' ∧ VX 56 3 w v2 a.u.hs.length (pms a.u.hs) w' ∧ VX 56 3 w v3 a.ps.length (pms a.ps) w'
theorem AdrP.bad {w w' : World} {R : Except (Nat × Int) Adr} {z : Nat} {k : Int} (h : R = .error (z, k)) (hb : Below w.heap.size w w') (hk : k ≠ 0) : AdrP w R (.returned (.tuple #[.agg #[.string ⟨#[]⟩, .string ⟨#[]⟩, .string ⟨#[]⟩, .string ⟨#[]⟩, .int .i64 0, .slice none 0 0, .slice none 0 0, .slice none 0 0], .int .i64 (z : Nat), .int .u8 k])) w' := by subst h; exact ⟨rfl, hb, hk⟩
theorem AdrP.good {w w' : World} {R : Except (Nat × Int) Adr} {d : List Int} {u : Uri} {l : List Pm} {v1 v2 v3 : Value} (h : R = .ok ⟨d, u, l⟩) (h1 : VX 56 3 w v1 u.ps.length (pms u.ps) w') (h2 : VX 56 3 w v2 u.hs.length (pms u.hs) w') (h3 : VX 56 3 w v3 l.length (pms l) w') : AdrP w R (.returned (.tuple #[.agg #[.string (strOfNums d), .string (strOfNums u.sc), .string (strOfNums u.us), .string (strOfNums u.ho), .int .i64 u.po, v1, v2, v3], .int .i64 0, .int .u8 0])) w' := by subst h; exact ⟨v1, v2, v3, rfl, h1, h2, h3⟩
theorem size8 (a b c d e f g h : Value) : (Tryz.prog.info? 38).map (·.size) = some [a, b, c, d, e, f, g, h].length := show (Tryz.prog.info? 38).map (·.size) = some 8 by kernel_rfl
theorem len8 (a b c d e f g h a' b' c' d' e' f' g' h' : Value) : [a, b, c, d, e, f, g, h].length = [a', b', c', d', e', f', g', h'].length := rfl
theorem ad_one (a b c d : ByteArray) (z : Int) {A B C : Option Addr} {n m o c1 c2 c3 : Nat} : ∀ u ∈ [Value.string a, .string b, .string c, .string d, .int .i64 z, .slice A n c1, .slice B m c2, .slice C o c3], u.oneCell' = true := fun u hu => by
  simp only [List.mem_cons, List.not_mem_nil, or_false] at hu
  rcases hu with rfl | rfl | rfl | rfl | rfl | rfl | rfl | rfl <;> rfl
theorem has_c (s : ByteArray) (c : UInt8) : decide (0 ≤ Lib.indexByte s.data.toList c) = (byteL s).contains (c.toNat : Int) := by
  rw [indexByte_bl c s.data.toList, ← byteL_bl]
  rw [Bool.eq_iff_iff, decide_eq_true_iff, List.contains_iff_mem]
  have key : (byteL s).length ≤ skipTo (fun x => x != (c.toNat : Int)) (byteL s) 0 ↔ (c.toNat : Int) ∉ byteL s := by
    unfold skipTo
    rw [List.drop_zero, Nat.zero_add]
    constructor
    · intro h hm
      have ht := (List.takeWhile_sublist (fun x => x != (c.toNat : Int)) (l := byteL s)).eq_of_length_le h
      have ha : ((byteL s).takeWhile fun x => x != (c.toNat : Int)).all (fun x => x != (c.toNat : Int)) = true := List.all_takeWhile
      rw [ht] at ha
      have := List.all_eq_true.1 ha _ hm
      simp at this
    · intro hm
      have := takeWhile_seg (f := fun x => x != (c.toNat : Int)) (z := byteL s) (r := []) (fun x hx => by
        have : x ≠ (c.toNat : Int) := fun e => hm (e ▸ hx)
        simpa using this) (.inl rfl)
      rw [List.append_nil] at this
      rw [this]; exact Nat.le_refl _
  by_cases h : (c.toNat : Int) ∈ byteL s
  · have h2 : ¬ (byteL s).length ≤ skipTo (fun x => x != (c.toNat : Int)) (byteL s) 0 := fun h3 => key.1 h3 h
    rw [if_neg h2]
    exact ⟨fun _ => h, fun _ => by omega⟩
  · rw [if_pos (key.2 h)]
    exact ⟨fun h2 => by omega, fun h2 => absurd h2 h⟩
def ErR (wb : World) (R : Except (Nat × Int) Adr) (z k : Int) (wx : World) : Prop := k ≠ 0 ∧ ∃ (n : Nat), z = n ∧ Hid (R = .error (n, k)) ∧ Hid (Below wb.heap.size wb wx)
def NmR (wb : World) (cb ab : Nat) (s : ByteArray) (R : Except (Nat × Int) Adr) (v7 v8 : Value) (wx : World) : Prop := ∃ z k : Int, v7 = .int .i64 z ∧ v8 = .int .u8 k ∧ (ErR wb R z k wx ∨
  ∃ (d : List Int) (b : Nat), z = 0 ∧ k = 0 ∧ b ≤ s.size ∧ Hid (R = adr2 (byteL s) d b) ∧ Hid (Mine wb wx (LA cb ab s b (aC0 d)) []))
def AiR (wb : World) (cb ab : Nat) (s : ByteArray) (R : Except (Nat × Int) Adr) (v7 v8 : Value) (wx : World) : Prop := ∃ z k : Int, v7 = .int .i64 z ∧ v8 = .int .u8 k ∧ (ErR wb R z k wx ∨
  ∃ (d : List Int) (u : Uri) (c : Nat) (A1 A2 : Option Addr) (c1 c2 : Nat), z = 0 ∧ k = 0 ∧ c ≤ s.size ∧ Hid (R = adr3 (byteL s) d u c) ∧ Hid (Mine wb wx (LA cb ab s c (aC d (strOfNums u.sc) (strOfNums u.us) (strOfNums u.ho) u.po (.slice A1 u.ps.length c1) (.slice A2 u.hs.length c2) (.slice none 0 0))) []) ∧ Hid (VX 56 3 wb (.slice A1 u.ps.length c1) u.ps.length (pms u.ps) wx) ∧ Hid (VX 56 3 wb (.slice A2 u.hs.length c2) u.hs.length (pms u.hs) wx))
def PrR (wb : World) (ab : Nat) (R : Except (Nat × Int) Adr) (v7 v8 : Value) (wx : World) : Prop := ∃ z k : Int, v7 = .int .i64 z ∧ v8 = .int .u8 k ∧ (ErR wb R z k wx ∨
  ∃ (d : List Int) (u : Uri) (l : List Pm) (A1 A2 A3 : Option Addr) (c1 c2 c3 : Nat), k = 0 ∧ Hid (R = .ok ⟨d, u, l⟩) ∧ wb.heap.size ≤ ab ∧ Hid (Row wx ab 38 [.string (strOfNums d), .string (strOfNums u.sc), .string (strOfNums u.us), .string (strOfNums u.ho), .int .i64 u.po, .slice A1 u.ps.length c1, .slice A2 u.hs.length c2, .slice A3 l.length c3]) ∧ Hid (VX 56 3 wb (.slice A1 u.ps.length c1) u.ps.length (pms u.ps) wx) ∧ Hid (VX 56 3 wb (.slice A2 u.hs.length c2) u.hs.length (pms u.hs) wx) ∧ Hid (VX 56 3 wb (.slice A3 l.length c3) l.length (pms l) wx))
set_option maxRecDepth 100000 in
set_option maxHeartbeats 2000000 in
theorem parseadr_any (s : ByteArray) (w : World) (hC : CLS w) (hG : GM w) (hP : PT w) : Calls Tryz.prog 26 #[.string s] w (AdrP w (adrL (byteL s))) := by
  have HL := byteL_len s
  have HBY := Lib.hid (byteL_by s)
  have BAD := Lib.hid (fun w' n k (h : adrL (byteL s) = .error (n, k)) hb hk => AdrP.bad (w := w) (w' := w') h hb hk)
  have GOOD := Lib.hid (fun w' d u l v1 v2 v3 (h : adrL (byteL s) = .ok ⟨d, u, l⟩) h1 h2 h3 => AdrP.good (w := w) (w' := w') (v1 := v1) (v2 := v2) (v3 := v3) h h1 h2 h3)
  have UE := Lib.hid (adr_eq (byteL s))
  rw [HL] at UE
  generalize AdrP w (adrL (byteL s)) = PP at *
  generalize adrL (byteL s) = R at *
  have RES := Lib.hid (fun wx h => below_row (w := w) (wx := wx) (T := 38) (zs := [.string ⟨#[]⟩, .string ⟨#[]⟩, .string ⟨#[]⟩, .string ⟨#[]⟩, .int .i64 0, .slice none 0 0, .slice none 0 0, .slice none 0 0]) h)
  have GRO := Lib.hid (fun wx w9 h hg => below_store (w := w) (wx := wx) (w9 := w9) (T := 38) (zs := [.string ⟨#[]⟩, .string ⟨#[]⟩, .string ⟨#[]⟩, .string ⟨#[]⟩, .int .i64 0, .slice none 0 0, .slice none 0 0, .slice none 0 0]) h hg)
  have WB0 := Lib.hid ((Below.refl w.heap.size w).alloc (Nat.le_refl _) (.cells ([.string ⟨#[]⟩, .string ⟨#[]⟩, .string ⟨#[]⟩, .string ⟨#[]⟩, .int .i64 0, .slice none 0 0, .slice none 0 0, .slice none 0 0] : List Value).toArray 38))
  have WBS := Lib.hid (show w.heap.size < (w.alloc (.cells ([.string ⟨#[]⟩, .string ⟨#[]⟩, .string ⟨#[]⟩, .string ⟨#[]⟩, .int .i64 0, .slice none 0 0, .slice none 0 0, .slice none 0 0] : List Value).toArray 38)).heap.size by rw [World.size_alloc]; omega)
  have REF := Lib.hid (Below.refl (w.alloc (.cells ([.string ⟨#[]⟩, .string ⟨#[]⟩, .string ⟨#[]⟩, .string ⟨#[]⟩, .int .i64 0, .slice none 0 0, .slice none 0 0, .slice none 0 0] : List Value).toArray 38)).heap.size (w.alloc (.cells ([.string ⟨#[]⟩, .string ⟨#[]⟩, .string ⟨#[]⟩, .string ⟨#[]⟩, .int .i64 0, .slice none 0 0, .slice none 0 0, .slice none 0 0] : List Value).toArray 38)))
  go_enter Tryz.func26, Tryz.ntmps26
  by_cases hbig : 1024 < s.size
  · have dd : decide ((1024 : Int) < (s.size : Int)) = true := by simp; omega
    have E := Lib.hid (show R = .error (1024, 4) from UE.out.trans (if_pos hbig))
    clear UE hbig
    have RR := Lib.hid (RES.out _ REF.out)
    go_wp2_with (with_reducible refine wpList_storeG rfl 38 (.tmp 2) (.tmp 12) rfl RR.out [.string ⟨#[]⟩, .string ⟨#[]⟩, .string ⟨#[]⟩, .string ⟨#[]⟩, .int .i64 0, .slice none 0 0, .slice none 0 0, .slice none 0 0] rfl rfl (len8 _ _ _ _ _ _ _ _ _ _ _ _ _ _ _ _) (size8 _ _ _ _ _ _ _ _) (ad_one _ _ _ _ _) ?_)
    intro w9 R9 G9
    have BW9 := Lib.hid (GRO.out _ _ REF.out G9.out)
    go_wp2_with fail
    exact bodyPost_ret (results_cuv rfl _ _ _ w.heap.size [.string ⟨#[]⟩, .string ⟨#[]⟩, .string ⟨#[]⟩, .string ⟨#[]⟩, .int .i64 0, .slice none 0 0, .slice none 0 0, .slice none 0 0] _ rfl R9.out.range Tryz.underlying38 rfl (size8 _ _ _ _ _ _ _ _)) rfl (by exact BAD.out _ _ _ E.out BW9.out (by decide))
  have dd : decide ((1024 : Int) < (s.size : Int)) = false := by simp; omega
  have hs : s.size ≤ 1024 := by omega
  have UE2 := Lib.hid (UE.out.trans (if_neg hbig))
  clear UE hbig REF
  have HCb := Lib.hid (hC.below WB0.out); have HGb := Lib.hid (hG.below WB0.out); have HPb := Lib.hid (hP.below WB0.out)
  clear hC hG hP
  go_upto_region 3 with (fail)
  generalize w.alloc (.cells #[.string ⟨#[]⟩, .string ⟨#[]⟩, .string ⟨#[]⟩, .string ⟨#[]⟩, .int .i64 0, .slice none 0 0, .slice none 0 0, .slice none 0 0] 38) = wb at *
  clear dd
  have RC := Lib.hid (Row.new wb 84 [.string s, .int .i64 ((0 : Nat) : Int)])
  have BC := Lib.hid ((Below.refl wb.heap.size wb).alloc (Nat.le_refl _) (.cells #[.string s, .int .i64 ((0 : Nat) : Int)] 84))
  have BLK := Lib.hid (fun w1 h1 => curblanks_any w1 wb.heap.size 0 s h1 (Nat.zero_le _) (by omega))
  obtain ⟨a, ha⟩ : ∃ a, skipTo isBlank (byteL s) 0 = a := ⟨_, rfl⟩
  rw [ha] at BLK
  have as_ : a ≤ s.size := by rw [← ha, ← HL]; exact skip_le (Nat.zero_le _)
  have NE := Lib.hid (nameL_eq ha rfl)
  have H60 := Lib.hid (has_60 ha)
  clear ha
  go_wp2_with fail
  refine (BLK.out _ RC.out).mono ?_
  rintro _ w2 ⟨rfl, hc⟩
  have M := Lib.hid (show Mine wb (w2.alloc (.cells ([.string ⟨#[]⟩, .string ⟨#[]⟩, .string ⟨#[]⟩, .string ⟨#[]⟩, .int .i64 0, .slice none 0 0, .slice none 0 0, .slice none 0 0] : List Value).toArray 38)) (LA wb.heap.size w2.heap.size s a (aC0 [])) [] from by
    have h1 : wb.heap.size < w2.heap.size := Nat.lt_of_lt_of_le RC.out.lt hc.g.size
    have hb2 : Below wb.heap.size wb w2 := BC.out.grown hc.g BC.out.size (fun k hk => by cases hk; exact Nat.le_refl _)
    refine ⟨hb2.alloc (by omega) _, fun r hr => ?_, by simp [LA]; omega, fun F hF => by cases hF⟩
    simp only [LA, List.mem_cons, List.not_mem_nil, or_false] at hr
    rcases hr with rfl | rfl
    · exact ⟨hc.r.alloc _, Nat.le_refl _⟩
    · exact ⟨Row.new w2 38 [.string ⟨#[]⟩, .string ⟨#[]⟩, .string ⟨#[]⟩, .string ⟨#[]⟩, .int .i64 0, .slice none 0 0, .slice none 0 0, .slice none 0 0], Nat.le_of_lt h1⟩)
  clear hc RC BC BLK
  go_upto_region 6 with (fail)
  generalize w2.alloc (.cells #[.string ⟨#[]⟩, .string ⟨#[]⟩, .string ⟨#[]⟩, .string ⟨#[]⟩, .int .i64 0, .slice none 0 0, .slice none 0 0, .slice none 0 0] 38) = w3 at *
  generalize w2.heap.size = ab at *
  generalize hcb : wb.heap.size = cb at M ⊢
  clear hcb
  have SE := Lib.hid (cursees_any w3 cb a 34 s (la_c M.out))
  rw [show seesB (byteL s) a 34 = atL (byteL s) a 34 from rfl] at SE
  go_wp2_with fail
  refine SE.out.mono ?_
  rintro _ _ ⟨rfl, nq, rfl⟩
  replace M := Lib.hid (M.out.call (below_drewN _ nq))
  clear SE
  generalize w3.drewN nq = w4 at *
  go_upto_if 20 with (fail)
  go_cut [7, 8] (fun v7 v8 wx => NmR wb cb ab s R v7 v8 wx)
  case first =>
    cases h34 : atL (byteL s) a 34 with
    | true =>
      have QE := Lib.hid (show nameL (byteL s) = qnL (byteL s) a by rw [NE.out, if_pos h34]; rfl)
      have QC := Lib.hid (quoted_any wb w4 cb ab a s M.out as_ (by omega))
      have NK := Lib.hid (name_ok HBY.out (by rw [HL]; exact hs))
      rw [QE.out] at UE2 NK
      generalize qnL (byteL s) a = Q at *
      clear NE H60 QE h34
      go_wp2_with fail
      refine QC.out.mono ?_
      cases Q with
      | error q =>
        obtain ⟨n, k⟩ := q
        rintro _ w5 ⟨rfl, hb5, hk⟩
        have E := Lib.hid (show R = .error (n, k) from UE2.out)
        have HB := Lib.hid hb5; have HK := Lib.hid hk
        clear hb5 hk UE2 NK QC M
        dsimp only at HK
        go_wp2_with fail
        go_meet
        exact ⟨n, k, rfl, rfl, .inl ⟨HK.out, n, rfl, E, HB⟩⟩
      | ok q =>
        obtain ⟨d, b⟩ := q
        rintro _ w5 ⟨rfl, hm⟩
        have E := Lib.hid (show R = adr2 (byteL s) d b from UE2.out)
        have HMM := Lib.hid hm
        have bl := NK.out.2.2
        rw [HL] at bl
        dsimp only at bl
        clear hm UE2 NK QC M
        go_wp2_with fail
        go_meet
        exact ⟨0, 0, rfl, rfl, .inr ⟨d, b, rfl, rfl, bl, E, HMM⟩⟩
    | false =>
      have NE2 := Lib.hid (NE.out.trans (if_neg (by rw [h34]; decide)))
      have CT := Lib.hid (fun w => (Tryz.strings_Contains_one s 60 w).mono (R' := fun e w' => e = .returned (.bool ((byteL s).contains 60)) ∧ w = w') fun e w' h => ⟨by rw [h.1, has_c s 60]; rfl, h.2.symm⟩)
      clear NE h34
      go_wp2_with fail
      refine (CT.out _).mono ?_
      rintro _ _ ⟨rfl, rfl⟩
      clear CT H60
      cases h60 : (byteL s).contains 60 with
      | true =>
        have QE := Lib.hid (show nameL (byteL s) = wdL (byteL s) a by rw [NE2.out, if_pos h60]; unfold wdL wdM; cases wordsN (byteL s) ((byteL s).length + 1) a [] <;> rfl)
        have QC := Lib.hid (plainname_any wb w4 cb ab a s M.out as_ hs)
        have NK := Lib.hid (name_ok HBY.out (by rw [HL]; exact hs))
        rw [QE.out] at UE2 NK
        generalize wdL (byteL s) a = Q at *
        clear NE2 QE h60
        go_wp2_with fail
        refine QC.out.mono ?_
        cases Q with
        | error q =>
          obtain ⟨n, k⟩ := q
          rintro _ w5 ⟨rfl, hb5, hk⟩
          have E := Lib.hid (show R = .error (n, k) from UE2.out)
          have HB := Lib.hid hb5; have HK := Lib.hid hk
          clear hb5 hk UE2 NK QC M
          dsimp only at HK
          go_wp2_with fail
          go_meet
          exact ⟨n, k, rfl, rfl, .inl ⟨HK.out, n, rfl, E, HB⟩⟩
        | ok q =>
          obtain ⟨d, b⟩ := q
          rintro _ w5 ⟨rfl, hm⟩
          have E := Lib.hid (show R = adr2 (byteL s) d b from UE2.out)
          have HMM := Lib.hid hm
          have bl := NK.out.2.2
          rw [HL] at bl
          dsimp only at bl
          clear hm UE2 NK QC M
          go_wp2_with fail
          go_meet
          exact ⟨0, 0, rfl, rfl, .inr ⟨d, b, rfl, rfl, bl, E, HMM⟩⟩
      | false =>
        have QE := Lib.hid (show nameL (byteL s) = .ok ([], a) by rw [NE2.out, if_neg (by rw [h60]; decide)])
        rw [QE.out] at UE2
        have E := Lib.hid (show R = adr2 (byteL s) [] a from UE2.out)
        clear NE2 QE h60 UE2
        go_wp2_with fail
        go_meet
        exact ⟨0, 0, rfl, rfl, .inr ⟨[], a, rfl, rfl, as_, E, M⟩⟩
  case rest =>
  obtain ⟨z0, k0, rfl, rfl, hcase⟩ := hcut
  have HCS := Lib.hid hcase
  clear hcase
  first | (rename_i KK hKK; refine hKK _ _ ?_; clear hKK KK) | skip
  clear M NE H60 UE2 as_
  go_upto_if 34 with (fail)
  go_cut [7, 8] (fun v7 v8 wx => AiR wb cb ab s R v7 v8 wx)
  case first =>
    rcases HCS.out with ⟨hk, n, rfl, HE, HB⟩ | ⟨d, b, rfl, rfl, hb, HR, M⟩
    · have q0 : (k0 == 0) = false := by simpa using hk
      have HK := Lib.hid hk
      rw [q0]
      clear hk HCS
      go_wp2_with fail
      go_meet
      exact ⟨n, k0, rfl, rfl, .inl ⟨HK.out, n, rfl, HE, HB⟩⟩
    · rw [show ((0 : Int) == 0) = true from rfl]
      have TG := Lib.hid (target_any wb _ cb ab b s d M.out hb (by omega) HCb.out HGb.out HPb.out)
      have AL := Lib.hid (fun u c (h : aimL (byteL s) b = .ok (u, c)) => show c ≤ s.size by rw [← HL]; exact aim_le (by rw [HL]; exact hb) h)
      have HR2 := Lib.hid (show R = match aimL (byteL s) b with
        | .error e => .error e
        | .ok q => adr3 (byteL s) d q.1 q.2 from HR.out)
      generalize aimL (byteL s) b = Q at *
      clear HR HCS
      go_wp2_with fail
      refine TG.out.mono ?_
      cases Q with
      | error q =>
        obtain ⟨n, k⟩ := q
        rintro _ w5 ⟨rfl, hb5, hk⟩
        have E := Lib.hid (show R = .error (n, k) from HR2.out)
        have HB := Lib.hid hb5; have HK := Lib.hid hk
        clear hb5 hk HR2 TG M AL
        dsimp only at HK
        go_wp2_with fail
        go_meet
        exact ⟨n, k, rfl, rfl, .inl ⟨HK.out, n, rfl, E, HB⟩⟩
      | ok q =>
        obtain ⟨u, c⟩ := q
        rintro _ w5 ⟨rfl, v1, v2, hm, x1, x2⟩
        obtain ⟨_, A1, c1, hv1, _⟩ := x1.whole
        obtain ⟨_, A2, c2, hv2, _⟩ := x2.whole
        subst hv1; subst hv2
        have E := Lib.hid (show R = adr3 (byteL s) d u c from HR2.out)
        have HMM := Lib.hid hm; have X1 := Lib.hid x1; have X2 := Lib.hid x2
        have cl := AL.out u c rfl
        clear hm x1 x2 HR2 TG M AL
        go_wp2_with fail
        go_meet
        exact ⟨0, 0, rfl, rfl, .inr ⟨d, u, c, A1, A2, c1, c2, rfl, rfl, cl, E, HMM, X1, X2⟩⟩
  case rest =>
  obtain ⟨z1, k1, rfl, rfl, hcase⟩ := hcut
  clear HCS
  have HCS := Lib.hid hcase
  clear hcase
  go_upto_if 41 with (fail)
  go_cut [7, 8] (fun v7 v8 wx => PrR wb ab R v7 v8 wx)
  case first =>
    rcases HCS.out with ⟨hk, n, rfl, HE, HB⟩ | ⟨d, u, c, A1, A2, c1, c2, rfl, rfl, hc, HR, M, X1, X2⟩
    · have q0 : (k1 == 0) = false := by simpa using hk
      have HK := Lib.hid hk
      rw [q0]
      clear hk HCS
      go_wp2_with fail
      go_meet
      exact ⟨n, k1, rfl, rfl, .inl ⟨HK.out, n, rfl, HE, HB⟩⟩
    · rw [show ((0 : Int) == 0) = true from rfl]
      clear HCS
      have ZL : byteL (s.extract c s.size) = (byteL s).drop c := drop_extract s c
      have ZS : (s.extract c s.size).size ≤ 4000000 := by rw [← byteL_len, ZL, List.length_drop, HL]; omega
      have PC := Lib.hid (paramsh_any (s.extract c s.size) _ ZS (HGb.out.below M.out.bw) (HPb.out.below M.out.bw))
      rw [ZL] at PC
      have PK := Lib.hid (pars_ok (X := (byteL s).drop c) (fun x hx => HBY.out x (List.mem_of_mem_drop hx)) (((byteL s).drop c).length + 1) 0 [] (Nat.zero_le _) (Nat.zero_le _) (fun p hp => by cases hp))
      rw [show parsN ((byteL s).drop c) (((byteL s).drop c).length + 1) 0 [] = parsL ((byteL s).drop c) from rfl] at PK
      have DL : ((byteL s).drop c).length ≤ 1024 := by rw [List.length_drop, HL]; omega
      have HR2 := Lib.hid (show R = match parsL ((byteL s).drop c) with
        | .error q => .error (c + q.1, q.2)
        | .ok l => .ok ⟨d, u, l⟩ from HR.out)
      generalize parsL ((byteL s).drop c) = Q at *
      have kc : wc.cell? ⟨cb, 1, none⟩ = some (.int .i64 c) := (la_c M.out).cell 1
      have i1 : (c : Int) ≤ (s.size : Int) := by omega
      have EXS := Lib.hid (Nat.le_refl s.size)
      clear HR ZL ZS
      go_wp2_with fail
      refine PC.out.mono ?_
      cases Q with
      | error q =>
        obtain ⟨n, k⟩ := q
        rintro _ w5 ⟨rfl, hb5, hk⟩
        have nl := PK.out.1
        dsimp only at nl
        have E := Lib.hid (show R = .error (c + n, k) from HR2.out)
        have HK := Lib.hid hk
        have M5 := Lib.hid (M.out.call hb5)
        clear hb5 hk HR2 PC PK M X1 X2 kc i1
        dsimp only at HK
        have k7 := (la_a M5.out).cell 7
        simp only [aC, List.getElem?_cons_succ, List.getElem?_cons_zero] at k7
        have f7 := (la_a M5.out).frozen 7
        have M6 := Lib.hid (la_aset M5.out 7 (.slice none 0 0))
        have kc := (la_c M6.out).cell 1
        simp only [List.getElem?_cons_succ, List.getElem?_cons_zero] at kc
        have zz : (n : Int) + (c : Int) ≤ 4000000 := by omega
        go_wp2_with fail
        go_meet
        exact ⟨(n : Int) + c, k, rfl, rfl, .inl ⟨HK.out, c + n, by push_cast; omega, E, Lib.hid M6.out.bw⟩⟩
      | ok l =>
        rintro _ w5 ⟨v3, rfl, x3, _⟩
        obtain ⟨_, A3, c3, hv3, _⟩ := x3.whole
        subst hv3
        have E := Lib.hid (show R = .ok ⟨d, u, l⟩ from HR2.out)
        have M5 := Lib.hid (M.out.call x3.bw)
        have Y1 := Lib.hid (X1.out.step x3.bw)
        have Y2 := Lib.hid (X2.out.step x3.bw)
        have Y3 := Lib.hid (x3.base M.out.bw)
        clear x3 HR2 PC PK M X1 X2 kc i1
        have k7 := (la_a M5.out).cell 7
        simp only [aC, List.getElem?_cons_succ, List.getElem?_cons_zero] at k7
        have f7 := (la_a M5.out).frozen 7
        have M6 := Lib.hid (la_aset M5.out 7 (.slice A3 l.length c3))
        have HH := Lib.hid (fun k (hk : k ≠ ab) => Below.heap_setCell w5 ⟨ab, 7, none⟩ (.slice A3 l.length c3) k hk)
        have Z1 := Lib.hid (vx_ab Y1.out (la_a M5.out) M6.out.bw HH.out)
        have Z2 := Lib.hid (vx_ab Y2.out (la_a M5.out) M6.out.bw HH.out)
        have Z3 := Lib.hid (vx_ab Y3.out (la_a M5.out) M6.out.bw HH.out)
        have R7 := Lib.hid (show Row (w5.setCell ⟨ab, 7, none⟩ (.slice A3 l.length c3)) ab 38 [.string (strOfNums d), .string (strOfNums u.sc), .string (strOfNums u.us), .string (strOfNums u.ho), .int .i64 u.po, .slice A1 u.ps.length c1, .slice A2 u.hs.length c2, .slice A3 l.length c3] from la_a M6.out)
        have GE := Lib.hid (show wb.heap.size ≤ ab from M6.out.ge (i := 1) rfl)
        have kc := (la_c M6.out).cell 1
        simp only [List.getElem?_cons_succ, List.getElem?_cons_zero] at kc
        clear Y1 Y2 Y3 HH
        go_wp2_with fail
        go_meet
        exact ⟨_, 0, rfl, rfl, .inr ⟨d, u, l, A1, A2, A3, c1, c2, c3, rfl, E, GE.out, R7, Z1, Z2, Z3⟩⟩
  case rest =>
  obtain ⟨z2, k2, rfl, rfl, hcase⟩ := hcut
  clear HCS
  rcases hcase with ⟨hk, n, rfl, HE, HB⟩ | ⟨d, u, l, A1, A2, A3, c1, c2, c3, rfl, E, ge, R7, Z1, Z2, Z3⟩
  · have q1 : (k2 != 0) = true := by simpa using hk
    have HK := Lib.hid hk
    clear hk
    have RR := Lib.hid (RES.out _ HB.out)
    have GR := Lib.hid (fun w9 h => GRO.out _ w9 HB.out h)
    go_wp2_with (with_reducible refine wpList_storeG rfl 38 (.tmp 2) (.tmp 62) rfl RR.out [.string ⟨#[]⟩, .string ⟨#[]⟩, .string ⟨#[]⟩, .string ⟨#[]⟩, .int .i64 0, .slice none 0 0, .slice none 0 0, .slice none 0 0] rfl rfl (len8 _ _ _ _ _ _ _ _ _ _ _ _ _ _ _ _) (size8 _ _ _ _ _ _ _ _) (ad_one _ _ _ _ _) ?_)
    intro w9 R9 G9
    have BW9 := Lib.hid (GR.out _ G9.out)
    go_wp2_with fail
    exact bodyPost_ret (results_cuv rfl _ _ _ w.heap.size [.string ⟨#[]⟩, .string ⟨#[]⟩, .string ⟨#[]⟩, .string ⟨#[]⟩, .int .i64 0, .slice none 0 0, .slice none 0 0, .slice none 0 0] _ rfl R9.out.range Tryz.underlying38 rfl (size8 _ _ _ _ _ _ _ _)) rfl (by exact BAD.out _ _ _ HE.out BW9.out HK.out)
  · have B7 := Lib.hid Z1.out.bw
    have RR := Lib.hid (RES.out _ B7.out)
    have GR := Lib.hid (fun w9 h => GRO.out _ w9 B7.out h)
    go_wp2_with (first
      | (with_reducible refine wpList_loadR rfl 38 (.tmp 6) rfl R7.out rfl Tryz.underlying38 rfl (size8 _ _ _ _ _ _ _ _) ?_)
      | (with_reducible refine wpList_storeG rfl 38 (.tmp 2) (.tmp 65) rfl RR.out [.string (strOfNums d), .string (strOfNums u.sc), .string (strOfNums u.us), .string (strOfNums u.ho), .int .i64 u.po, .slice A1 u.ps.length c1, .slice A2 u.hs.length c2, .slice A3 l.length c3] rfl rfl (len8 _ _ _ _ _ _ _ _ _ _ _ _ _ _ _ _) (size8 _ _ _ _ _ _ _ _) (ad_one _ _ _ _ _) ?_))
    intro w9 R9 G9
    have BW9 := Lib.hid (GR.out _ G9.out)
    have Y1 := Lib.hid (vx_res Z1.out WB0.out WBS.out G9.out BW9.out)
    have Y2 := Lib.hid (vx_res Z2.out WB0.out WBS.out G9.out BW9.out)
    have Y3 := Lib.hid (vx_res Z3.out WB0.out WBS.out G9.out BW9.out)
    go_wp2_with fail
    exact bodyPost_ret (results_cuv rfl _ _ _ w.heap.size [.string (strOfNums d), .string (strOfNums u.sc), .string (strOfNums u.us), .string (strOfNums u.ho), .int .i64 u.po, .slice A1 u.ps.length c1, .slice A2 u.hs.length c2, .slice A3 l.length c3] _ rfl R9.out.range Tryz.underlying38 rfl (size8 _ _ _ _ _ _ _ _)) rfl (by exact GOOD.out _ _ _ _ _ _ _ E.out Y1.out Y2.out Y3.out)
end Go.Proofs.YthfonniieaiocaaGreatDoor
