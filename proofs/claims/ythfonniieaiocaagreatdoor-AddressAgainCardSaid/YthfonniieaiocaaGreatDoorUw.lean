/- Contract: address's target. -/
import Derived.Test.YthfonniieaiocaaGreatDoorLl
import Derived.Test.YthfonniieaiocaaGreatDoorUo
import Derived.Deep.CutBlock
import Derived.Deep.DeepCutAuto
set_option linter.unusedVariables false
set_option linter.unusedSimpArgs false
namespace Go.Proofs.YthfonniieaiocaaGreatDoor
open Go.RowKit

/-- The address text between two offsets. -/
def aimX (xs : List Int) (b e h : Nat) : Except (Nat × Int) (Uri × Nat) := match uriL (subL xs b e) with
  | .error q => .error (b + q.1, q.2)
  | .ok u => .ok (u, h)
theorem aim_in {xs : List Int} {a e : Nat} (h : atL xs a 60 = true) (he : untilL xs (a + 1) [62] = e) : aimL xs a = if e = xs.length then .error (e, 5) else aimX xs (a + 1) e (e + 1) := by
  subst he
  unfold aimL aimX
  rw [if_pos h]
  dsimp only
  split
  · rfl
  · cases uriL (subL xs (a + 1) (untilL xs (a + 1) [62])) <;> rfl
theorem aim_out {xs : List Int} {a e q : Nat} (h : atL xs a 60 = false) (he : untilL xs a [59, 32, 9] = e) (hq : untilL xs a [63, 44] = q) : aimL xs a = if q < e then .error (q, 5) else aimX xs a e e := by
  subst he; subst hq
  unfold aimL aimX
  rw [if_neg (by rw [h]; decide)]
  dsimp only
  split
  · rfl
  · cases uriL (subL xs a (untilL xs a [59, 32, 9])) <;> rfl
theorem uriL_err {xs : List Int} (hx : By xs) {q : Nat × Int} (h : uriL xs = .error q) : q.2 ≠ 0 ∧ q.1 ≤ xs.length := by
  have := uri_ok hx
  rw [h] at this
  exact ⟨this.2, this.1⟩
theorem la_uset {w wr : World} {cb ab a : Nat} {s : ByteArray} {d : List Int} {x1 x2 x3 y1 y2 y3 : ByteArray} {p po : Int} {q1 q2 v1 v2 v3 : Value} (h : Mine w wr (LA cb ab s a (aC d x1 x2 x3 p q1 q2 v3)) []) : Mine w (wr.setCells ab 1 [.string y1, .string y2, .string y3, .int .i64 po, v1, v2]) (LA cb ab s a (aC d y1 y2 y3 po v1 v2 v3)) [] :=
  h.store (i := 1) rfl rfl (Row.setCells [.string y1, .string y2, .string y3, .int .i64 po, v1, v2] [.string x1, .string x2, .string x3, .int .i64 p, q1, q2] [.string (strOfNums d)] [v3] wr (la_a h) rfl) (below_setCells (h.ge (i := 1) rfl) _ 1 _ h.bw) ⟨size_setCells _ ab 1 wr, fun b' hb' => heap_setCells _ 1 wr b' hb'⟩
def AimP (w : World) (cb ab : Nat) (s : ByteArray) (d : List Int) (R : Except (Nat × Int) (Uri × Nat)) (e : Ending) (w' : World) : Prop := match R with
  | .error q => e = .returned (.tuple #[.int .i64 (q.1 : Nat), .int .u8 q.2]) ∧ Below w.heap.size w w' ∧ q.2 ≠ 0
  | .ok (u, b) => e = .returned (.tuple #[.int .i64 0, .int .u8 0]) ∧ ∃ v1 v2, Mine w w' (LA cb ab s b (aC d (strOfNums u.sc) (strOfNums u.us) (strOfNums u.ho) u.po v1 v2 (.slice none 0 0))) [] ∧ VX 56 3 w v1 u.ps.length (pms u.ps) w' ∧ VX 56 3 w v2 u.hs.length (pms u.hs) w'
theorem AimP.bad {w w' : World} {cb ab z : Nat} {k : Int} {s : ByteArray} {d : List Int} {R : Except (Nat × Int) (Uri × Nat)} (h : R = .error (z, k)) (hb : Below w.heap.size w w') (hk : k ≠ 0) {zi : Int} (hz : zi = (z : Nat)) : AimP w cb ab s d R (.returned (.tuple #[.int .i64 zi, .int .u8 k])) w' := by
  subst h; subst hz; exact ⟨rfl, hb, hk⟩
theorem AimP.good {w w' : World} {cb ab b : Nat} {s : ByteArray} {d : List Int} {R : Except (Nat × Int) (Uri × Nat)} {u : Uri} {v1 v2 : Value} (h : R = .ok (u, b)) (hm : Mine w w' (LA cb ab s b (aC d (strOfNums u.sc) (strOfNums u.us) (strOfNums u.ho) u.po v1 v2 (.slice none 0 0))) []) (h1 : VX 56 3 w v1 u.ps.length (pms u.ps) w') (h2 : VX 56 3 w v2 u.hs.length (pms u.hs) w') : AimP w cb ab s d R (.returned (.tuple #[.int .i64 0, .int .u8 0])) w' := by
  subst h; exact ⟨rfl, v1, v2, hm, h1, h2⟩
theorem asc_62 : Asc7 ⟨#[62]⟩ := fun j b h => by
  have hm := List.mem_of_getElem? h
  simp only [List.mem_cons, List.not_mem_nil, or_false] at hm
  subst hm; decide
theorem asc_5932 : Asc7 ⟨#[59, 32, 9]⟩ := fun j b h => by
  have hm := List.mem_of_getElem? h
  simp only [List.mem_cons, List.not_mem_nil, or_false] at hm
  rcases hm with rfl | rfl | rfl <;> decide
theorem asc_6344 : Asc7 ⟨#[63, 44]⟩ := fun j b h => by
  have hm := List.mem_of_getElem? h
  simp only [List.mem_cons, List.not_mem_nil, or_false] at hm
  rcases hm with rfl | rfl <;> decide
theorem vx_ab {w wr w' : World} {ab : Nat} {us : List Value} {v : Value} {n : Nat} {cs : List Value} (X : VX 56 3 w v n cs wr) (hr : Row wr ab 38 us) (hb : Below w.heap.size w w') (hh : ∀ k, k ≠ ab → w'.heap[k]? = wr.heap[k]?) : VX 56 3 w v n cs w' := X.other hb fun g hg => hh g (rowT_vx hr X (by decide) g hg)
theorem vx_cb {w wr w' : World} {cb : Nat} {us : List Value} {v : Value} {n : Nat} {cs : List Value} (X : VX 56 3 w v n cs wr) (hr : Row wr cb 84 us) (hb : Below w.heap.size w w') (hh : ∀ k, k ≠ cb → w'.heap[k]? = wr.heap[k]?) : VX 56 3 w v n cs w' := X.other hb fun g hg => hh g (rowT_vx hr X (by decide) g hg)
set_option maxRecDepth 100000 in
set_option maxHeartbeats 1000000 in
theorem target_any (w wr : World) (cb ab a : Nat) (s : ByteArray) (d : List Int) (H : Mine w wr (LA cb ab s a (aC0 d)) []) (ha : a ≤ s.size) (hs : s.size ≤ 4000000) (hC : CLS w) (hG : GM w) (hP : PT w) :
    Calls Tryz.prog 84 #[.pointer (some ⟨cb, 0, none⟩), .pointer (some ⟨ab, 0, none⟩)] wr (AimP w cb ab s d (aimL (byteL s) a)) := by
  have HM := Lib.hid H
  have HC := Lib.hid hC; have HG := Lib.hid hG; have HP := Lib.hid hP
  have HL := byteL_len s
  have BAD := Lib.hid (fun w' z k zi (h : aimL (byteL s) a = .error (z, k)) hb hk hz => AimP.bad (w := w) (w' := w') (cb := cb) (ab := ab) (s := s) (d := d) (zi := zi) h hb hk hz)
  have GOOD := Lib.hid (fun w' u b v1 v2 (h : aimL (byteL s) a = .ok (u, b)) hm h1 h2 => AimP.good (w := w) (w' := w') (cb := cb) (ab := ab) (s := s) (d := d) (u := u) (v1 := v1) (v2 := v2) h hm h1 h2)
  have SE := Lib.hid (fun w h1 => cursees_any w cb a 60 s h1)
  rw [show seesB (byteL s) a 60 = atL (byteL s) a 60 from rfl] at SE
  have IN := Lib.hid (fun (h : atL (byteL s) a 60 = true) => aim_in h rfl)
  have OUT := Lib.hid (fun (h : atL (byteL s) a 60 = false) => aim_out h rfl rfl)
  have AT := Lib.hid (fun (h : atL (byteL s) a 60 = true) => show a + 1 ≤ s.size by have := (atL_lt (xs := byteL s) (a := a) (c := 60) (by rw [h]; decide)).1; rw [HL] at this; exact this)
  have UN1 := Lib.hid (fun w h => until_any s ⟨#[62]⟩ (a + 1) w hs h (by decide) (by decide) asc_62)
  simp only [show byteL ⟨#[62]⟩ = [62] by rfl] at UN1
  have UN2 := Lib.hid (fun w => until_any s ⟨#[59, 32, 9]⟩ a w hs ha (by decide) (by decide) asc_5932)
  simp only [show byteL ⟨#[59, 32, 9]⟩ = [59, 32, 9] by rfl] at UN2
  have UN3 := Lib.hid (fun w => until_any s ⟨#[63, 44]⟩ a w hs ha (by decide) (by decide) asc_6344)
  simp only [show byteL ⟨#[63, 44]⟩ = [63, 44] by rfl] at UN3
  generalize hPP : AimP w cb ab s d (aimL (byteL s) a) = PP at *
  generalize hRR : aimL (byteL s) a = R at *
  clear hPP hRR H hC hG hP
  have k1 : wr.cell? ⟨cb, 1, none⟩ = some (.int .i64 a) := (la_c HM.out).cell 1
  go_enter Tryz.func84, Tryz.ntmps84
  go_wp2_with fail
  refine (SE.out wr (la_c HM.out)).mono ?_
  rintro _ _ ⟨rfl, nq, rfl⟩
  have M := Lib.hid (HM.out.call (below_drewN _ nq))
  clear SE HM k1
  generalize wr.drewN nq = w1 at *
  go_upto_if 18 with (fail)
  go_cut [6, 7, 8] (fun v6 v7 v8 wx => ∃ b e h : Nat, v6 = .int .i64 b ∧ v7 = .int .i64 e ∧ v8 = .int .i64 h ∧ b ≤ e ∧ e ≤ s.size ∧ Hid (R = aimX (byteL s) b e h) ∧ Hid (Mine w wx (LA cb ab s a (aC0 d)) []))
  case first =>
    cases h60 : atL (byteL s) a 60 with
    | true =>
      have a1 := AT.out h60
      have RE := IN.out h60
      have UN := Lib.hid (fun w => UN1.out w a1)
      obtain ⟨u1, u2⟩ := until_le (xs := byteL s) (a := a + 1) (st := [62]) (by rw [HL]; exact a1)
      obtain ⟨e, he⟩ : ∃ e, untilL (byteL s) (a + 1) [62] = e := ⟨_, rfl⟩
      rw [he] at RE UN u1 u2
      rw [HL] at RE u2
      have RE1 := Lib.hid RE
      clear RE he IN OUT AT UN1 UN2 UN3 h60
      obtain ⟨a', ha'⟩ : ∃ a', a + 1 = a' := ⟨_, rfl⟩
      have ha2 : (a : Int) + 1 = (a' : Int) := by omega
      rw [ha'] at RE1 UN u1
      clear ha'
      have k0 : w1.cell? ⟨cb, 0, none⟩ = some (.string s) := (la_c M.out).cell 0
      have RG := Lib.hid (la_c M.out).text
      go_wp2_with (with_reducible refine wpList_load_mid rfl 82 (.tmp 23) rfl cb 0 rfl [.string s] _ RG.out Tryz.underlying82 rfl (sizeTx _) ?_)
      refine (UN.out _).mono ?_
      rintro _ w2 ⟨rfl, hb2⟩
      have M2 := Lib.hid (M.out.call hb2)
      clear hb2 M RG UN k0
      have k0 : w2.cell? ⟨cb, 0, none⟩ = some (.string s) := (la_c M2.out).cell 0
      by_cases hend : e = s.size
      · have q0 : ((e : Int) == (s.size : Int)) = true := by simp [hend]
        have E := Lib.hid (RE1.out.trans (if_pos hend))
        clear RE1 hend
        go_wp2_with fail
        first | exact BAD.out _ _ _ _ E.out M2.out.bw (by decide) rfl | (go_ret2; exact BAD.out _ _ _ _ E.out M2.out.bw (by decide) rfl)
      · have q0 : ((e : Int) == (s.size : Int)) = false := by simp; omega
        have E := Lib.hid (RE1.out.trans (if_neg hend))
        clear RE1 hend
        go_wp2_with fail
        go_meet
        exact ⟨a', e, e + 1, rfl, rfl, by push_cast; rfl, u1, u2, E, M2⟩
    | false =>
      have RE := OUT.out h60
      obtain ⟨u1, u2⟩ := until_le (xs := byteL s) (a := a) (st := [59, 32, 9]) (by rw [HL]; exact ha)
      obtain ⟨e, he⟩ : ∃ e, untilL (byteL s) a [59, 32, 9] = e := ⟨_, rfl⟩
      obtain ⟨q, hq⟩ : ∃ q, untilL (byteL s) a [63, 44] = q := ⟨_, rfl⟩
      rw [he, hq] at RE
      rw [he] at UN2 u1 u2
      rw [hq] at UN3
      rw [HL] at u2
      have RE1 := Lib.hid RE
      clear RE he hq IN OUT AT UN1 h60
      have k0 : w1.cell? ⟨cb, 0, none⟩ = some (.string s) := (la_c M.out).cell 0
      have RG := Lib.hid (la_c M.out).text
      go_wp2_with (with_reducible refine wpList_load_mid rfl 82 (.tmp 40) rfl cb 0 rfl [.string s] _ RG.out Tryz.underlying82 rfl (sizeTx _) ?_)
      refine (UN2.out _).mono ?_
      rintro _ w2 ⟨rfl, hb2⟩
      have M2 := Lib.hid (M.out.call hb2)
      clear hb2 M RG UN2 k0
      have k0 : w2.cell? ⟨cb, 0, none⟩ = some (.string s) := (la_c M2.out).cell 0
      have RG := Lib.hid (la_c M2.out).text
      go_wp2_with (with_reducible refine wpList_load_mid rfl 82 (.tmp 47) rfl cb 0 rfl [.string s] _ RG.out Tryz.underlying82 rfl (sizeTx _) ?_)
      refine (UN3.out _).mono ?_
      rintro _ w3 ⟨rfl, hb3⟩
      have M3 := Lib.hid (M2.out.call hb3)
      clear hb3 M2 RG UN3 k0
      by_cases hlt : q < e
      · have q0 : decide ((q : Int) < (e : Int)) = true := by simp; omega
        have E := Lib.hid (RE1.out.trans (if_pos hlt))
        clear RE1
        go_wp2_with fail
        first | exact BAD.out _ _ _ _ E.out M3.out.bw (by decide) rfl | (go_ret2; exact BAD.out _ _ _ _ E.out M3.out.bw (by decide) rfl)
      · have q0 : decide ((q : Int) < (e : Int)) = false := by simp; omega
        have E := Lib.hid (RE1.out.trans (if_neg hlt))
        clear RE1
        go_wp2_with fail
        go_meet
        exact ⟨a, e, e, rfl, rfl, rfl, u1, u2, E, M3⟩
  case rest =>
  first | (rename_i KK hKK; obtain ⟨b, e, h, rfl, rfl, rfl, hbe, hes, RE, M2⟩ := hcut; refine hKK _ _ ?_; clear hKK KK) | obtain ⟨b, e, h, rfl, rfl, rfl, hbe, hes, RE, M2⟩ := hcut
  clear M UN1 UN2 UN3 IN OUT AT
  have k0 : wc.cell? ⟨cb, 0, none⟩ = some (.string s) := (la_c M2.out).cell 0
  have i1 : (b : Int) ≤ (e : Int) := by omega
  have i2 : (e : Int) ≤ (s.size : Int) := by omega
  have PA := Lib.hid (parse_any (s.extract b e) wc (HC.out.below M2.out.bw) (HG.out.below M2.out.bw) (HP.out.below M2.out.bw))
  rw [show byteL (s.extract b e) = subL (byteL s) b e from byteL_extract s b e] at PA
  have UE := Lib.hid (fun q h => uriL_err (xs := subL (byteL s) b e) (q := q) ((byteL_by s).sub (subL_sub _ _ _)) h)
  have RE2 := Lib.hid (show R = match uriL (subL (byteL s) b e) with
    | .error q => .error (b + q.1, q.2)
    | .ok u => .ok (u, h) from RE.out)
  generalize uriL (subL (byteL s) b e) = V at *
  clear RE HC HG HP
  go_wp2_with fail
  refine PA.out.mono ?_
  cases V with
  | error q =>
    obtain ⟨z, k⟩ := q
    rintro _ w3 ⟨rfl, hb3, hk⟩
    have hk := Lib.hid hk
    have zl : z ≤ 4000000 := by
      have h1 := (UE.out _ rfl).2
      have h2 := (subL_sub (byteL s) b e).length_le
      rw [HL] at h2
      dsimp only at h1
      omega
    have z0 : (0 : Int) ≤ (b : Int) + (z : Int) := by omega
    have z1 : (b : Int) + (z : Int) ≤ 9000000 := by omega
    have M3 := Lib.hid (M2.out.call hb3)
    have E := Lib.hid (show R = .error (b + z, k) from RE2.out)
    clear hb3 M2 PA RE2 UE k0 i1 i2
    have q1 : (k != 0) = true := by have := hk.out; simpa using this
    dsimp only
    go_wp2_with (with_reducible refine wpList_storeN rfl 32 (.tmp 10) (.tmp 65) rfl [.string ⟨#[]⟩, .string ⟨#[]⟩, .string ⟨#[]⟩, .int .i64 0, .slice none 0 0, .slice none 0 0] [.string ⟨#[]⟩, .string ⟨#[]⟩, .string ⟨#[]⟩, .int .i64 0, .slice none 0 0, .slice none 0 0] rfl rfl (lenU _ _ _ _ _ _ _ _ _ _ _ _) (sizeU _ _ _ _ _ _) (u_one _ _ _ _) ?_)
    intro w4 R4 B4
    have M4 := Lib.hid (M3.out.call B4.out)
    go_wp2_with fail
    first | exact BAD.out _ _ _ _ E.out M4.out.bw hk.out (by push_cast; rfl) | (go_ret2; exact BAD.out _ _ _ _ E.out M4.out.bw hk.out (by push_cast; rfl))
  | ok u =>
    rintro _ w3 ⟨v1, v2, rfl, x1, x2⟩
    obtain ⟨_, A1, c1, hv1, _⟩ := x1.whole
    obtain ⟨_, A2, c2, hv2, _⟩ := x2.whole
    subst hv1; subst hv2
    have M3 := Lib.hid (M2.out.call x1.bw)
    have X1 := Lib.hid (x1.base M2.out.bw)
    have X2 := Lib.hid (x2.base M2.out.bw)
    have E := Lib.hid (show R = .ok (u, h) from RE2.out)
    clear x1 x2 M2 PA RE2 UE k0 i1 i2
    go_wp2_with (with_reducible refine wpList_storeN rfl 32 (.tmp 10) (.tmp 65) rfl [.string ⟨#[]⟩, .string ⟨#[]⟩, .string ⟨#[]⟩, .int .i64 0, .slice none 0 0, .slice none 0 0] [.string (strOfNums u.sc), .string (strOfNums u.us), .string (strOfNums u.ho), .int .i64 u.po, .slice A1 u.ps.length c1, .slice A2 u.hs.length c2] rfl rfl (lenU _ _ _ _ _ _ _ _ _ _ _ _) (sizeU _ _ _ _ _ _) (u_one _ _ _ _) ?_)
    intro w4 R4 B4
    have M4 := Lib.hid (M3.out.call B4.out)
    replace X1 := Lib.hid (X1.out.step B4.out)
    replace X2 := Lib.hid (X2.out.step B4.out)
    have TH := Lib.hid (show w4.there ab 1 (#[.string (strOfNums u.sc), .string (strOfNums u.us), .string (strOfNums u.ho), .int .i64 u.po, .slice A1 u.ps.length c1, .slice A2 u.hs.length c2] : Array Value).size from fun j hj => by
      have := (la_a M4.out).there (1 + j) (by simp at hj; simp [aC]; omega)
      simpa using this)
    have SZ := Lib.hid (show (Tryz.prog.info? 32 ).map (·.size) = some (#[.string (strOfNums u.sc), .string (strOfNums u.us), .string (strOfNums u.ho), .int .i64 u.po, .slice A1 u.ps.length c1, .slice A2 u.hs.length c2] : Array Value).size from sizeU _ _ _ _ _ _)
    have OC := Lib.hid (show (#[.string (strOfNums u.sc), .string (strOfNums u.us), .string (strOfNums u.ho), .int .i64 u.po, .slice A1 u.ps.length c1, .slice A2 u.hs.length c2] : Array Value).all (·.oneCell') = true from all_oneCell_toArray (u_one _ _ _ _))
    have M5 := Lib.hid (la_uset (y1 := strOfNums u.sc) (y2 := strOfNums u.us) (y3 := strOfNums u.ho) (po := u.po) (v1 := .slice A1 u.ps.length c1) (v2 := .slice A2 u.hs.length c2) M4.out)
    have Y1 := Lib.hid (vx_ab X1.out (la_a M4.out) M5.out.bw (fun k hk => heap_setCells _ 1 w4 k hk))
    have Y2 := Lib.hid (vx_ab X2.out (la_a M4.out) M5.out.bw (fun k hk => heap_setCells _ 1 w4 k hk))
    clear M3 B4 X1 X2
    go_wp2_with (first
      | (with_reducible refine wpList_loadR rfl 32 (.tmp 10) rfl R4.out rfl Tryz.underlying32 rfl (sizeU _ _ _ _ _ _) ?_)
      | (with_reducible refine wpList_store_mid rfl 32 (.tmp 79) (.tmp 76) rfl ab 1 _ rfl rfl TH.out SZ.out OC.out ?_
         rw [show (#[.string (strOfNums u.sc), .string (strOfNums u.us), .string (strOfNums u.ho), .int .i64 u.po, .slice A1 u.ps.length c1, .slice A2 u.hs.length c2] : Array Value).toList = [.string (strOfNums u.sc), .string (strOfNums u.us), .string (strOfNums u.ho), .int .i64 u.po, .slice A1 u.ps.length c1, .slice A2 u.hs.length c2] from rfl]
         generalize w4.setCells ab 1 [.string (strOfNums u.sc), .string (strOfNums u.us), .string (strOfNums u.ho), .int .i64 u.po, .slice A1 u.ps.length c1, .slice A2 u.hs.length c2] = w5 at *
         have k1 : w5.cell? ⟨cb, 1, none⟩ = some (.int .i64 a) := (la_c M5.out).cell 1
         have f1 : w5.frozen? ⟨cb, 1, none⟩ = false := (la_c M5.out).frozen 1))
    have M6 := Lib.hid (la_cset M5.out h (z := (h : Int)) rfl)
    have Z1 := Lib.hid (vx_cb Y1.out (la_c M5.out) M6.out.bw (fun k hk => Below.heap_setCell w5 ⟨cb, 1, none⟩ (.int .i64 (h : Int)) k hk))
    have Z2 := Lib.hid (vx_cb Y2.out (la_c M5.out) M6.out.bw (fun k hk => Below.heap_setCell w5 ⟨cb, 1, none⟩ (.int .i64 (h : Int)) k hk))
    first | exact GOOD.out _ _ _ _ _ E.out M6.out Z1.out Z2.out | (go_ret2; exact GOOD.out _ _ _ _ _ E.out M6.out Z1.out Z2.out)
end Go.Proofs.YthfonniieaiocaaGreatDoor
