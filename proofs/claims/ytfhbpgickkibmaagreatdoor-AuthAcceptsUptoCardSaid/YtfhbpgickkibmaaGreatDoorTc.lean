/- The laws' own functions: invite, first. What is asserted of the operations where a request is answered and its message laid. -/
import Derived.Test.YtfhbpgickkibmaaGreatDoorTa
import Derived.Test.YtfhbpgickkibmaaGreatDoorSd
import Derived.Test.YtfhbpgickkibmaaGreatDoorQb
namespace Go.Proofs.YtfhbpgickkibmaaGreatDoor
open Go.RowKit

/-- What invite hands back. -/
def InvP (B : Option Addr) (m d : Nat) (w : World) (e : Ending) (w' : World) : Prop := Below w.heap.size w w' ∧ ∃ b, e = .returned (.agg #[.string INVs, .string BOBs, .int .i64 0, .string ⟨#[]⟩, .slice (some ⟨b, 0, none⟩) 1 1, .slice B m d]) ∧ Rds w' w'.heap.size (some ⟨b, 0, none⟩) (hds [(TOs, BOBs)])
set_option maxRecDepth 100000 in
theorem invite_any (B : Option Addr) (m d : Nat) (w : World) : Calls Tryz.prog 33 #[.slice B m d] w (InvP B m d w) := by
  have R2 := Lib.hid (show Row ((w.alloc (.cells #[.string INVs, .string BOBs, .int .i64 0, .string ⟨#[]⟩, .slice (some ⟨w.heap.size + 1, 0, none⟩) 1 1, .slice B m d] 41)).alloc (.cells #[.string TOs, .string BOBs] 69)) w.heap.size 41 [.string INVs, .string BOBs, .int .i64 0, .string ⟨#[]⟩, .slice (some ⟨w.heap.size + 1, 0, none⟩) 1 1, .slice B m d] from (Row.new w 41 [.string INVs, .string BOBs, .int .i64 0, .string ⟨#[]⟩, .slice (some ⟨w.heap.size + 1, 0, none⟩) 1 1, .slice B m d]).alloc _)
  have RH := Lib.hid (show Row ((w.alloc (.cells #[.string INVs, .string BOBs, .int .i64 0, .string ⟨#[]⟩, .slice (some ⟨w.heap.size + 1, 0, none⟩) 1 1, .slice B m d] 41)).alloc (.cells #[.string TOs, .string BOBs] 69)) (w.heap.size + 1) 69 [.string TOs, .string BOBs] by
    have h := Row.new (w.alloc (.cells #[.string INVs, .string BOBs, .int .i64 0, .string ⟨#[]⟩, .slice (some ⟨w.heap.size + 1, 0, none⟩) 1 1, .slice B m d] 41)) 69 [.string TOs, .string BOBs]
    rwa [World.size_alloc] at h)
  have BQ := Lib.hid (show Below w.heap.size w ((w.alloc (.cells #[.string INVs, .string BOBs, .int .i64 0, .string ⟨#[]⟩, .slice (some ⟨w.heap.size + 1, 0, none⟩) 1 1, .slice B m d] 41)).alloc (.cells #[.string TOs, .string BOBs] 69)) from ((Below.refl _ _).alloc (Nat.le_refl _) _).alloc (by simp) _)
  go_enter Tryz.func33, Tryz.ntmps33
  go_wp2_with fail
  exact bodyPost_ret (results_cell rfl _ _ ((w.alloc (.cells #[.string INVs, .string BOBs, .int .i64 0, .string ⟨#[]⟩, .slice (some ⟨w.heap.size + 1, 0, none⟩) 1 1, .slice B m d] 41)).alloc (.cells #[.string TOs, .string BOBs] 69)) w.heap.size [.string INVs, .string BOBs, .int .i64 0, .string ⟨#[]⟩, .slice (some ⟨w.heap.size + 1, 0, none⟩) 1 1, .slice B m d] _ rfl R2.out.range Tryz.underlying41 rfl (sizeL6 _ _ _ _ _ _)) rfl ⟨BQ.out, w.heap.size + 1, rfl, fun _ => ⟨w.heap.size + 1, 0, rfl, RH.out.lt, fun j u hu => by have h := RH.out.cell j; rw [Nat.zero_add]; exact h.trans hu⟩⟩
/-- What first answers. -/
def firL (re ke : ByteArray) (life : Int) : IR := if 200 < re.size ∨ 200 < ke.size then ⟨⟨#[]⟩, ⟨#[]⟩, 0, 0, [], ⟨#[]⟩, ⟨#[]⟩, false, 2⟩ else issL re ke life 0 1000 []
theorem firL_bad {re ke : ByteArray} {life : Int} (h : 200 < re.size ∨ 200 < ke.size) : firL re ke life = ⟨⟨#[]⟩, ⟨#[]⟩, 0, 0, [], ⟨#[]⟩, ⟨#[]⟩, false, 2⟩ := if_pos h
theorem firL_ok {re ke : ByteArray} {life : Int} (h : ¬ (200 < re.size ∨ 200 < ke.size)) : firL re ke life = issL re ke life 0 1000 [] := if_neg h
def FirP (V : IR) (w : World) (e : Ending) (w' : World) : Prop := Below w.heap.size w w' ∧ ∃ A c, e = .returned (.tuple #[.agg #[.string V.re, .string V.ke, .int .i64 V.life, .int .i64 V.iss, .slice A V.l.length c], .agg #[.string V.cr, .string V.cn, .string ⟨#[]⟩, .bool V.ci, .bool false], .bool (V.q == 0)]) ∧ (A = none → V.l.length = 0 ∧ c = 0) ∧ Rds w' w'.heap.size A (ncs V.l)
set_option maxRecDepth 100000 in
set_option maxHeartbeats 2000000 in
theorem first_any (re ke : ByteArray) (life : Int) (w : World) (s1 : re.size ≤ 4000000) (s2 : ke.size ≤ 4000000) (hK : KC w) (hP : PT w) :
    Calls Tryz.prog 32 #[.string re, .string ke, .int .i64 life] w (FirP (firL re ke life) w) := by
  have FB := Lib.hid (fun h => firL_bad (re := re) (ke := ke) (life := life) h)
  have FO := Lib.hid (fun h => firL_ok (re := re) (ke := ke) (life := life) h)
  have IS := Lib.hid (fun (X : World) (b : Below w.heap.size w X) => issue_any re ke life 0 1000 none 0 0 [] X (fun h => absurd h (by simp [ncs])) rfl (by omega) s1 s2 (fun _ => ⟨rfl, rfl⟩) (hK.below b) (hP.below b))
  clear hK hP
  have R6 := Lib.hid (show Row ((w.alloc (.cells #[.string ⟨#[]⟩, .string ⟨#[]⟩, .int .i64 0, .int .i64 0, .slice none 0 0] 49)).alloc (.cells #[.string ⟨#[]⟩, .string ⟨#[]⟩, .string ⟨#[]⟩, .bool false, .bool false] 36)) w.heap.size 49 [.string ⟨#[]⟩, .string ⟨#[]⟩, .int .i64 0, .int .i64 0, .slice none 0 0] from (Row.new w 49 [.string ⟨#[]⟩, .string ⟨#[]⟩, .int .i64 0, .int .i64 0, .slice none 0 0]).alloc _)
  have R7 := Lib.hid (show Row ((w.alloc (.cells #[.string ⟨#[]⟩, .string ⟨#[]⟩, .int .i64 0, .int .i64 0, .slice none 0 0] 49)).alloc (.cells #[.string ⟨#[]⟩, .string ⟨#[]⟩, .string ⟨#[]⟩, .bool false, .bool false] 36)) (w.heap.size + 1) 36 [.string ⟨#[]⟩, .string ⟨#[]⟩, .string ⟨#[]⟩, .bool false, .bool false] by
    have h := Row.new (w.alloc (.cells #[.string ⟨#[]⟩, .string ⟨#[]⟩, .int .i64 0, .int .i64 0, .slice none 0 0] 49)) 36 [.string ⟨#[]⟩, .string ⟨#[]⟩, .string ⟨#[]⟩, .bool false, .bool false]
    rwa [World.size_alloc] at h)
  have BQ := Lib.hid (show Below w.heap.size w ((w.alloc (.cells #[.string ⟨#[]⟩, .string ⟨#[]⟩, .int .i64 0, .int .i64 0, .slice none 0 0] 49)).alloc (.cells #[.string ⟨#[]⟩, .string ⟨#[]⟩, .string ⟨#[]⟩, .bool false, .bool false] 36)) from ((Below.refl _ _).alloc (Nat.le_refl _) _).alloc (by simp) _)
  by_cases hb : 200 < re.size ∨ 200 < ke.size
  · have E := Lib.hid (FB.out hb)
    generalize firL re ke life = V at *
    have hor : ∃ b1 b2 : Bool, decide ((200 : Int) < (re.size : Int)) = b1 ∧ decide ((200 : Int) < (ke.size : Int)) = b2 ∧ (b1 = true ∨ (b1 = false ∧ b2 = true)) := by
      refine ⟨_, _, rfl, rfl, ?_⟩
      by_cases h1 : 200 < re.size
      · exact .inl (by simp; omega)
      · exact .inr ⟨by simp; omega, by simp; omega⟩
    obtain ⟨b1, b2, d1, d2, hor⟩ := hor
    have DD1 := Lib.hid d1; have DD2 := Lib.hid d2
    clear hb FO FB IS d1 d2
    go_enter Tryz.func32, Tryz.ntmps32
    rcases hor with rfl | ⟨rfl, rfl⟩
    all_goals
      have d1 := DD1.out; have d2 := DD2.out
      go_wp2_with (with_reducible refine wpList_storeR rfl 49 (.tmp 6) (.tmp 20) rfl R6.out [.string ⟨#[]⟩, .string ⟨#[]⟩, .int .i64 0, .int .i64 0, .slice none 0 0] rfl rfl (lenG _ _ _ _ _ _ _ _ _ _) (sizeG _ _ _ _ _) (g_one _ _ _ _ _ _ _) BQ.out (Nat.le_refl _) ?_)
      intro w8 R9 B9 H9
      have R5' := Lib.hid (show Row w8 (w.heap.size + 1) 36 [.string ⟨#[]⟩, .string ⟨#[]⟩, .string ⟨#[]⟩, .bool false, .bool false] from (H9.out.2 _ (by omega)).trans R7.out)
      go_wp2_with (with_reducible refine wpList_storeR rfl 36 (.tmp 7) (.tmp 21) rfl R5'.out [.string ⟨#[]⟩, .string ⟨#[]⟩, .string ⟨#[]⟩, .bool false, .bool false] rfl rfl (lenG _ _ _ _ _ _ _ _ _ _) (sizeCh _ _ _ _ _) (ch_one _ _ _ _ _) B9.out (by omega) ?_)
      intro w9 RA BA HA
      have RB := Lib.hid (show Row w9 w.heap.size 49 [.string ⟨#[]⟩, .string ⟨#[]⟩, .int .i64 0, .int .i64 0, .slice none 0 0] from (HA.out.2 _ (by omega)).trans R9.out)
      go_wp2_with fail
      exact bodyPost_ret (results_cct rfl _ _ _ w.heap.size (w.heap.size + 1) [.string ⟨#[]⟩, .string ⟨#[]⟩, .int .i64 0, .int .i64 0, .slice none 0 0] [.string ⟨#[]⟩, .string ⟨#[]⟩, .string ⟨#[]⟩, .bool false, .bool false] _ _ rfl RB.out.range Tryz.underlying49 rfl sizeG3 rfl RA.out.range Tryz.underlying36 rfl sizeCh5) rfl (by rw [E.out]; exact ⟨BA.out, none, 0, rfl, fun _ => ⟨rfl, rfl⟩, fun h => absurd h (by simp [ncs])⟩)
  · rw [FO.out hb]
    generalize issL re ke life 0 1000 [] = V at *
    have d1 : decide ((200 : Int) < (re.size : Int)) = false := by simp; omega
    have d2 : decide ((200 : Int) < (ke.size : Int)) = false := by simp; omega
    clear hb FO FB
    go_enter Tryz.func32, Tryz.ntmps32
    go_wp2_with fail
    clear d1 d2
    generalize ((w.alloc (.cells #[.string ⟨#[]⟩, .string ⟨#[]⟩, .int .i64 0, .int .i64 0, .slice none 0 0] 49)).alloc (.cells #[.string ⟨#[]⟩, .string ⟨#[]⟩, .string ⟨#[]⟩, .bool false, .bool false] 36)) = W at *
    refine (IS.out W BQ.out).mono ?_
    rintro e X ⟨hbx, A1, c1, rfl, hA0, hfr, hA1⟩
    have OWN := Lib.hid (show ∀ b o s, A1 = some ⟨b, o, s⟩ → b ≠ w.heap.size ∧ b ≠ w.heap.size + 1 from fun b o s e => by have h1 := hfr b o s e; have h2 := R7.out.lt; omega)
    clear hfr
    have R6' := Lib.hid (R6.out.below hbx); have R7' := Lib.hid (R7.out.below hbx); have BX := Lib.hid (bthen BQ.out hbx); have HA1 := Lib.hid hA1
    have LX := Lib.hid (show w.heap.size + 1 < X.heap.size from R7'.out.lt)
    have HNIL := Lib.hid hA0
    clear hbx hA1 hA0 IS R6 R7 BQ
    obtain ⟨NG, hNG⟩ : ∃ NG, NG = V.l.length := ⟨_, rfl⟩
    have N5 := Lib.hid (show Row ((X.alloc (.cells #[.string ⟨#[]⟩, .string ⟨#[]⟩, .int .i64 0, .int .i64 0, .slice none 0 0] 49)).alloc (.cells #[.string ⟨#[]⟩, .string ⟨#[]⟩, .string ⟨#[]⟩, .bool false, .bool false] 36)) X.heap.size 49 [.string ⟨#[]⟩, .string ⟨#[]⟩, .int .i64 0, .int .i64 0, .slice none 0 0] from (Row.new X 49 [.string ⟨#[]⟩, .string ⟨#[]⟩, .int .i64 0, .int .i64 0, .slice none 0 0]).alloc _)
    have N6 := Lib.hid (show Row ((X.alloc (.cells #[.string ⟨#[]⟩, .string ⟨#[]⟩, .int .i64 0, .int .i64 0, .slice none 0 0] 49)).alloc (.cells #[.string ⟨#[]⟩, .string ⟨#[]⟩, .string ⟨#[]⟩, .bool false, .bool false] 36)) (X.heap.size + 1) 36 [.string ⟨#[]⟩, .string ⟨#[]⟩, .string ⟨#[]⟩, .bool false, .bool false] by
      have h := Row.new (X.alloc (.cells #[.string ⟨#[]⟩, .string ⟨#[]⟩, .int .i64 0, .int .i64 0, .slice none 0 0] 49)) 36 [.string ⟨#[]⟩, .string ⟨#[]⟩, .string ⟨#[]⟩, .bool false, .bool false]
      rwa [World.size_alloc] at h)
    have BA := Lib.hid (show Below X.heap.size X ((X.alloc (.cells #[.string ⟨#[]⟩, .string ⟨#[]⟩, .int .i64 0, .int .i64 0, .slice none 0 0] 49)).alloc (.cells #[.string ⟨#[]⟩, .string ⟨#[]⟩, .string ⟨#[]⟩, .bool false, .bool false] 36)) from ((Below.refl _ _).alloc (Nat.le_refl _) _).alloc (by simp) _)
    go_wp2_with (with_reducible refine wpList_storeR rfl 49 (.tmp 9) (.tmp 28) rfl N5.out [.string V.re, .string V.ke, .int .i64 V.life, .int .i64 V.iss, .slice A1 V.l.length c1] rfl rfl (lenG _ _ _ _ _ _ _ _ _ _) (sizeG _ _ _ _ _) (g_one _ _ _ _ _ _ _) BA.out (Nat.le_refl _) ?_)
    intro Ya R5a B5 H5
    have N6' := Lib.hid (show Row Ya (X.heap.size + 1) 36 [.string ⟨#[]⟩, .string ⟨#[]⟩, .string ⟨#[]⟩, .bool false, .bool false] from (H5.out.2 _ (by omega)).trans N6.out)
    go_wp2_with (with_reducible refine wpList_storeR rfl 36 (.tmp 10) (.tmp 29) rfl N6'.out [.string V.cr, .string V.cn, .string ⟨#[]⟩, .bool V.ci, .bool false] rfl rfl (lenG _ _ _ _ _ _ _ _ _ _) (sizeCh _ _ _ _ _) (ch_one _ _ _ _ _) B5.out (by omega) ?_)
    intro Y C10 B6 H6
    have G9 := Lib.hid (show Row Y X.heap.size 49 [.string V.re, .string V.ke, .int .i64 V.life, .int .i64 V.iss, .slice A1 V.l.length c1] from (H6.out.2 _ (by omega)).trans R5a.out)
    have R6'' := Lib.hid (R6'.out.below B6.out)
    have R7'' := Lib.hid (R7'.out.below B6.out)
    have HA1' := Lib.hid ((HA1.out.below B6.out).up B6.out.size)
    have BY := Lib.hid (bthen BX.out B6.out)
    clear N5 N6 N6' BA B5 H5 H6 R5a BX R6' R7' HA1 B6
    go_wp2_with fail
    obtain ⟨k0, k1, k2, k3, k4⟩ := G9.out.five
    obtain ⟨z0, z1, z2, z3, z4⟩ := R6''.out.five
    obtain ⟨y0, y1, y2, y3, y4⟩ := R7''.out.five
    obtain ⟨x0, x1, x2, x3, x4⟩ := C10.out.five
    have f0 := R6''.out.frozen 0; have f1 := R6''.out.frozen 1; have f2 := R6''.out.frozen 2; have f3 := R6''.out.frozen 3; have f4 := R6''.out.frozen 4
    have g0 := R7''.out.frozen 0; have g1 := R7''.out.frozen 1; have g2 := R7''.out.frozen 2; have g3 := R7''.out.frozen 3; have g4 := R7''.out.frozen 4
    have n1 : ∀ (W : World) (o o2 : Nat) (u : Value), (W.setCell ⟨w.heap.size, o2, none⟩ u).cell? ⟨X.heap.size, o, none⟩ = W.cell? ⟨X.heap.size, o, none⟩ := fun W o o2 u => World.cell?_setCell_other _ _ _ _ (by intro e; injection e with e; have := LX.out; omega)
    have n2 : ∀ (W : World) (o o2 : Nat) (u : Value), (W.setCell ⟨w.heap.size, o2, none⟩ u).cell? ⟨X.heap.size + 1, o, none⟩ = W.cell? ⟨X.heap.size + 1, o, none⟩ := fun W o o2 u => World.cell?_setCell_other _ _ _ _ (by intro e; injection e with e; have := LX.out; omega)
    have rs := ((R6''.out.setAll [.string V.re, .string V.ke, .int .i64 V.life, .int .i64 V.iss, .slice A1 V.l.length c1] rfl).setCellsOther (p := (w.heap.size + 1)) (by omega) [.string V.cr, .string V.cn, .string ⟨#[]⟩, .bool V.ci, .bool false] 0).drew
    have rt := (Row.setAll (R7''.out.setCellsOther (p := w.heap.size) (by omega) [.string V.re, .string V.ke, .int .i64 V.life, .int .i64 V.iss, .slice A1 V.l.length c1] 0) [.string V.cr, .string V.cn, .string ⟨#[]⟩, .bool V.ci, .bool false] rfl).drew
    have bs2 := (below_setCells (by omega : w.heap.size ≤ (w.heap.size + 1)) [.string V.cr, .string V.cn, .string ⟨#[]⟩, .bool V.ci, .bool false] 0 _ (below_setCells (by omega : w.heap.size ≤ w.heap.size) [.string V.re, .string V.ke, .int .i64 V.life, .int .i64 V.iss, .slice A1 V.l.length c1] 0 _ BY.out)).drew
    have NB := Lib.hid (show ∀ b o s, A1 = some ⟨b, o, s⟩ → b ≠ w.heap.size ∧ b ≠ (w.heap.size + 1) from OWN.out)
    have rx := rds_two (b4 := w.heap.size) (b5 := (w.heap.size + 1)) [.string V.re, .string V.ke, .int .i64 V.life, .int .i64 V.iss, .slice A1 V.l.length c1] [.string V.cr, .string V.cn, .string ⟨#[]⟩, .bool V.ci, .bool false] HA1'.out (fun b o s e => (NB.out b o s e).1) (fun b o s e => (NB.out b o s e).2)
    simp only [World.setCells, Nat.zero_add, Nat.reduceAdd] at rs rt bs2 rx
    have RS := Lib.hid rs; have RT := Lib.hid rt; have BS := Lib.hid bs2; have RX := Lib.hid rx
    clear rs rt bs2 rx G9 C10 R6'' R7'' BY HA1'
    go_region
    all_goals clear n1 n2
    all_goals
      go_wp2_with fail
      trace_state
      exact bodyPost_ret (results_cct rfl _ _ _ w.heap.size (w.heap.size + 1) [.string V.re, .string V.ke, .int .i64 V.life, .int .i64 V.iss, .slice A1 V.l.length c1] [.string V.cr, .string V.cn, .string ⟨#[]⟩, .bool V.ci, .bool false] _ _ rfl (by exact RS.out.range) Tryz.underlying49 rfl (sizeG _ _ _ _ _) rfl (by exact RT.out.range) Tryz.underlying36 rfl sizeCh5) rfl (by exact ⟨BS.out, A1, c1, rfl, HNIL.out, RX.out⟩)
end Go.Proofs.YtfhbpgickkibmaaGreatDoor
namespace Go.Proofs.YtfhbpgickkibmaaGreatDoor
open Go.RowKit

def errA : Option (List Int) → Int
  | none => 2
  | some _ => 0
/-- The message that Answer hands back. -/
def AnsM (V : Option (List Int)) (bs : List Int) (W : World) (v : Value) : Prop := match V with
  | none => v = .agg Z6.toArray
  | some val => ∃ A c B d, v = .agg #[.string INVs, .string BOBs, .int .i64 0, .string ⟨#[]⟩, .slice A 2 c, .slice B bs.length d] ∧ Rds W W.heap.size A (hds [(TOs, BOBs), (AUTHs, strOfNums val)]) ∧ Bs W W.heap.size B bs
def AnsR (V : Option (List Int)) (bs : List Int) (W : World) (v : Value) : Prop := ∃ m, v = .tuple #[m, .int .u8 (errA V)] ∧ AnsM V bs W m
def InvR (B : Option Addr) (m d : Nat) (W : World) (v : Value) : Prop := ∃ b, v = .agg #[.string INVs, .string BOBs, .int .i64 0, .string ⟨#[]⟩, .slice (some ⟨b, 0, none⟩) 1 1, .slice B m d] ∧ Rds W W.heap.size (some ⟨b, 0, none⟩) (hds [(TOs, BOBs)])
theorem AnsM.below {V : Option (List Int)} {bs : List Int} {W W' : World} {v : Value} (h : AnsM V bs W v) (hb : Below W.heap.size W W') : AnsM V bs W' v := by
  cases V with
  | none => exact h
  | some val =>
    obtain ⟨A, c, B, d, e, h1, h2⟩ := h
    exact ⟨A, c, B, d, e, (h1.below hb).up hb.size, (h2.below hb).up hb.size⟩
theorem AnsR.below {V : Option (List Int)} {bs : List Int} {W W' : World} {v : Value} (h : AnsR V bs W v) (hb : Below W.heap.size W W') : AnsR V bs W' v := by
  obtain ⟨m, e, h1⟩ := h
  exact ⟨m, e, h1.below hb⟩
theorem InvR.below {B : Option Addr} {m d : Nat} {W W' : World} {v : Value} (h : InvR B m d W v) (hb : Below W.heap.size W W') : InvR B m d W' v := by
  obtain ⟨b, e, h1⟩ := h
  exact ⟨b, e, (h1.below hb).up hb.size⟩
theorem hds_setRow {W : World} {b : Nat} {us : List Value} {A : Option Addr} {p : ByteArray × ByteArray} {l : List (ByteArray × ByteArray)} (hr : Row W b 41 Z6) (h : Rds W W.heap.size A (hds (p :: l))) (hp : p.1 ≠ ⟨#[]⟩) : Rds (W.setRow b us.toArray) (W.setRow b us.toArray).heap.size A (hds (p :: l)) := fun hn => by
  obtain ⟨x, o, e, hx, hc⟩ := h hn
  have hne : x ≠ b := row_ne (ad := ⟨x, o + 0, none⟩) hr (hc 0 _ rfl) (by
    intro hm
    simp only [List.mem_cons, List.not_mem_nil, or_false, Value.string.injEq, reduceCtorEq, false_or] at hm
    rcases hm with h | h | h <;> exact hp h)
  refine ⟨x, o, e, by simpa using hx, fun j u hu => ?_⟩
  rw [cell_setRow_other _ _ _ _ hne]
  exact hc j u hu
theorem bs_setRow {W : World} {b : Nat} {us : List Value} {B : Option Addr} {bs : List Int} (hr : Row W b 41 Z6) (h : Bs W W.heap.size B bs) : Bs (W.setRow b us.toArray) (W.setRow b us.toArray).heap.size B bs := fun hn => by
  obtain ⟨ad, e, hx, hc⟩ := h hn
  have hne : ad.block ≠ b := by
    have h0 := hc 0 (bs[0]) (List.getElem?_eq_getElem hn)
    rw [← add_block ad 0]
    exact row_ne hr h0 (by
      intro hm
      simp at hm)
  refine ⟨ad, e, by simpa using hx, fun j x hj => ?_⟩
  rw [cell_setRow_other _ _ _ _ (by rw [add_block]; exact hne)]
  exact hc j x hj
theorem AnsM.setRow {V : Option (List Int)} {bs : List Int} {W : World} {v : Value} {b : Nat} {us : List Value} (hr : Row W b 41 Z6) (h : AnsM V bs W v) : AnsM V bs (W.setRow b us.toArray) v := by
  cases V with
  | none => exact h
  | some val =>
    obtain ⟨A, c, B, d, e, h1, h2⟩ := h
    exact ⟨A, c, B, d, e, hds_setRow hr h1 (by decide), bs_setRow hr h2⟩
inductive Ask where
  | any : Ask
  | eq : Value → Ask
  | inv : Ask
  | ans : Ask
  | msg : Ask
  | err : Ask
def Ask.holds (V : Option (List Int)) (bs : List Int) (B : Option Addr) (m d : Nat) : Ask → World → Value → Prop
  | .any, _, _ => True
  | .eq u, _, v => v = u
  | .inv, W, v => InvR B m d W v
  | .ans, W, v => AnsR V bs W v
  | .msg, W, v => AnsM V bs W v
  | .err, _, v => v = .int .u8 (errA V)
section
variable {V : Option (List Int)} {bs : List Int} {B : Option Addr} {m d : Nat}
theorem Ask.below {k : Ask} {W W' : World} {v : Value} (hb : Below W.heap.size W W') (h : k.holds V bs B m d W v) : k.holds V bs B m d W' v := by
  cases k with
  | any => trivial
  | eq u => exact h
  | inv => exact InvR.below h hb
  | ans => exact AnsR.below h hb
  | msg => exact AnsM.below h hb
  | err => exact h
theorem Ask.setRow {k : Ask} {W : World} {v : Value} {b : Nat} {us : List Value} (hr : Row W b 41 Z6) (h : k.holds V bs B m d W v) : k.holds V bs B m d (W.setRow b us.toArray) v := by
  cases k with
  | any => trivial
  | eq u => exact h
  | inv =>
    obtain ⟨x, e, h1⟩ := h
    exact ⟨x, e, hds_setRow hr h1 (by decide)⟩
  | ans =>
    obtain ⟨x, e, h1⟩ := h
    exact ⟨x, e, h1.setRow hr⟩
  | msg => exact AnsM.setRow hr h
  | err => exact h
theorem Ask.cells {W : World} {v : Value} (h : Ask.msg.holds V bs B m d W v) : ∃ us : List Value, v = .agg us.toArray ∧ us.length = Z6.length ∧ ∀ u ∈ us, u.oneCell' = true := by
  cases V with
  | none => exact ⟨Z6, h, rfl, z6_one⟩
  | some val =>
    obtain ⟨A, c, B', d', e, _, _⟩ := h
    exact ⟨[.string INVs, .string BOBs, .int .i64 0, .string ⟨#[]⟩, .slice A 2 c, .slice B' bs.length d'], e, rfl, p6_one _ _ _ _ _ _ _ _ _ _⟩
end
/-- Answer, at the request that invite makes. -/
theorem answer_inv (rs ns us cs pw : ByteArray) (g : Bool) (k : Int) (B : Option Addr) (m d : Nat) (bs : List Int) (W : World) (v : Value) (hi : InvR B m d W v)
    (hb : By bs) (hm : bs.length = m) (hM : m ≤ 16000000) (hB : Bs W W.heap.size B bs) (hnil : B = none → m = 0 ∧ d = 0)
    (s1 : rs.size ≤ 4000000) (s2 : ns.size ≤ 4000000) (s4 : us.size ≤ 4000000) (s5 : cs.size ≤ 4000000) (s6 : pw.size ≤ 4000000) (hK : KC W) (hS : SC W) :
    Calls Tryz.prog 22 #[.agg #[.string rs, .string ns, .string ⟨#[]⟩, .bool true, .bool false], .agg #[.string us, .string ⟨#[]⟩, .string ⟨#[]⟩, .string ⟨#[]⟩, .string ⟨#[]⟩, .string cs, .string ⟨#[]⟩, .int .i64 k, .bool g], .string pw, v] W
      fun e W' => ∃ u, e = .returned u ∧ Below W.heap.size W W' ∧ AnsR (ansL 0 true (XC (byteL us) (byteL rs) (byteL ns) (byteL cs) (byteL pw) k g bs)) bs W' u := by
  obtain ⟨b, rfl, hr⟩ := hi
  refine (answer_any rs ns ⟨#[]⟩ us ⟨#[]⟩ ⟨#[]⟩ ⟨#[]⟩ ⟨#[]⟩ cs ⟨#[]⟩ pw INVs BOBs ⟨#[]⟩ true false g k 0 (some ⟨b, 0, none⟩) B 1 1 m d [(TOs, BOBs)] bs W hr rfl (by decide) (fun h hh => by rw [List.mem_singleton] at hh; subst hh; decide) hb hm hM hB hnil s1 s2 (by decide) s4 s5 s6 (by decide) (by decide) hK hS).mono ?_
  rintro e W' ⟨hbw, hp⟩
  have hX : ansCr (byteL us) (byteL rs) (byteL ns) (byteL BOBs) (byteL ⟨#[]⟩) (byteL cs) (byteL INVs) k g (byteL pw) bs = XC (byteL us) (byteL rs) (byteL ns) (byteL cs) (byteL pw) k g bs := rfl
  rw [hX] at hp
  cases hV : ansL 0 true (XC (byteL us) (byteL rs) (byteL ns) (byteL cs) (byteL pw) k g bs) with
  | none =>
    rw [hV] at hp
    exact ⟨_, hp, hbw, _, rfl, rfl⟩
  | some val =>
    rw [hV] at hp
    obtain ⟨A, n, c, B', m', d', e1, e2, h1, e3, h2⟩ := hp
    rw [keep_to] at e2 h1
    subst e2 e3
    exact ⟨_, e1, hbw, _, rfl, A, c, B', d', rfl, h1, h2⟩
end Go.Proofs.YtfhbpgickkibmaaGreatDoor
