/- Contract: address.groups. And what stands behind it. -/
import Derived.Test.YthfonniieaiocaaGreatDoorFe
import Derived.Test.YthfonniieaiocaaGreatDoorPh
import Derived.Test.YthfonniieaiocaaGreatDoorBm
set_option linter.unusedVariables false
set_option linter.unusedSimpArgs false
namespace Go.Proofs.YthfonniieaiocaaGreatDoor
open Go.RowKit

theorem grpN_len {g : List Int} (h : g.length ≤ 4) : (grpN g).length ≤ 4 := by
  unfold grpN
  dsimp only
  split
  · decide
  · have := (List.dropWhile_sublist (l := lowS g) (· == (48 : Int))).length_le
    rw [lowS_len] at this
    omega
theorem grpL_len {s : List Int} {l : List (List Int)} (h : grpL s = some l) : (∀ p ∈ l, p.length ≤ 4) ∧ l.length ≤ s.length + 1 := by
  unfold grpL at h
  split at h
  · rename_i ha
    injection h with h
    subst h
    refine ⟨fun p hp => ?_, by rw [List.length_map]; exact (cutL_sub 58 s).2⟩
    obtain ⟨q, hq, rfl⟩ := List.mem_map.1 hp
    have := List.all_eq_true.1 ha q hq
    unfold grpOK at this
    simp only [Bool.and_eq_true, decide_eq_true_eq] at this
    exact grpN_len this.1.2
  · cases h
theorem dblL_len : ∀ {s : List Int} {p : List Int × List Int}, dblL s = some p → p.1.length + p.2.length + 2 = s.length
  | [], p, h => by cases h
  | [_], p, h => by cases h
  | c :: d :: r, p, h => by
    rw [dblL] at h
    split at h
    · injection h with h
      subst h
      simp
    · cases hq : dblL (d :: r) with
      | none => rw [hq] at h; cases h
      | some q =>
        rw [hq] at h
        injection h with h
        subst h
        have := dblL_len hq
        simp at this ⊢
        omega
theorem sideL_ok {s : List Int} {x : List (List Int)} (hs : By s) (h : sideL s = some x) : (∀ p ∈ x, By p) ∧ (∀ p ∈ x, p.length ≤ 4) ∧ x.length ≤ s.length + 1 := by
  unfold sideL at h
  split at h
  · injection h with h
    subst h
    exact ⟨(fun p hp => by cases hp), (fun p hp => by cases hp), Nat.zero_le _⟩
  · exact ⟨grpL_by hs h, (grpL_len h).1, (grpL_len h).2⟩
theorem VX.step0 {T : TypeId} {sz : Nat} {w w' : World} {v : Value} {n : Nat} {cs : List Value} (H : VX T sz w v n cs w) (hb : Below w.heap.size w w') : VX T sz w v n cs w' := H.step hb
theorem nil_beq {l : List Int} {b : Bool} (h : (bl [] == l) = b) : b = true ↔ l = [] := by
  rw [← h, beq_iff_eq]
  exact ⟨fun h => h.symm, fun h => h.symm⟩
def SideP (w : World) (R : Option (List (List Int))) (v b : Value) (w' : World) : Prop := match R with
  | none => v = .slice none 0 0 ∧ b = .bool false ∧ Below w.heap.size w w'
  | some l => b = .bool true ∧ SXL w v l w'
theorem sxl_form {w w' : World} {v : Value} {l : List (List Int)} (h : SXL w v l w') : ∃ A c, v = .slice A l.length c := by
  rcases VX.form h with ⟨h1, h2, _⟩ | ⟨g, cap, h1, _⟩
  · exact ⟨none, 0, by rw [h1, h2]⟩
  · exact ⟨_, _, h1⟩
theorem joinx_any {w w0 : World} {v : Value} {l : List (List Int)} (H : SXL w0 v l w) (hb : ∀ p ∈ l, By p) (h4 : ∀ p ∈ l, p.length ≤ 4) (hl : l.length ≤ 1000) :
    Calls Tryz.prog 126 #[v, .string ⟨#[58]⟩] w fun e w' => e = .returned (.string (strOfNums (joinL [58] l))) ∧ Below w.heap.size w w' := by
  have hm : (l.map strOfNums).map byteL = l := by
    rw [List.map_map]
    exact (List.map_congr_left fun p hp => byteL_str (hb p hp)).trans (List.map_id _)
  have hx : SX w0 v (l.map strOfNums) w := ⟨by rw [List.length_map, List.map_map]; exact H.o, H.bw⟩
  have := join_any hx ⟨#[58]⟩ (by rw [List.length_map]; omega) (by
    rw [hm]
    have h := joinL_len [58] 4 l h4
    rw [show byteL ⟨#[58]⟩ = [58] from rfl]
    simp at h
    omega)
  rwa [hm, show byteL ⟨#[58]⟩ = [58] from rfl] at this
theorem SideP.bw {w w' : World} {R : Option (List (List Int))} {v b : Value} (h : SideP w R v b w') : Below w.heap.size w w' := by
  cases R with
  | none => exact h.2.2
  | some l => exact h.2.bw
theorem SideP.step {w w1 w2 : World} {R : Option (List (List Int))} {v b : Value} (h : SideP w R v b w1) (hb : Below w1.heap.size w1 w2) : SideP w R v b w2 := by
  cases R with
  | none => exact ⟨h.1, h.2.1, bthen h.2.2 hb⟩
  | some l => exact ⟨h.1, h.2.step hb⟩
def GrsP (w : World) (R : Option (List Int)) (e : Ending) (w' : World) : Prop := Below w.heap.size w w' ∧ match R with
  | none => ∃ j, e = .returned (.tuple #[.string j, .bool false])
  | some g => e = .returned (.tuple #[.string (strOfNums g), .bool true])
theorem GrsP.bad {w w' : World} {R : Option (List Int)} {j : ByteArray} (h : R = none) (hb : Below w.heap.size w w') : GrsP w R (.returned (.tuple #[.string j, .bool false])) w' := by subst h; exact ⟨hb, j, rfl⟩
theorem GrsP.good {w w' : World} {R : Option (List Int)} {g : List Int} {s : ByteArray} (h : R = some g) (hs : s = strOfNums g) (hb : Below w.heap.size w w') : GrsP w R (.returned (.tuple #[.string s, .bool true])) w' := by subst h; subst hs; exact ⟨hb, rfl⟩
set_option maxRecDepth 100000 in
set_option maxHeartbeats 4000000 in
theorem groups_any (s : ByteArray) (w : World) (hs : s.size ≤ 4000000) (hm : GM w) : Calls Tryz.prog 57 #[.string s] w (GrsP w (groupsL (byteL s))) := by
  have HG := kd hm
  have CT := kd (cutdbl_any s w hs hm)
  have SB := kd (byteL_by s)
  have SL := kd (byteL_len s)
  have GL := kd (fun w h => grouplist_any s w hs h)
  have E0 := kd (fun (h : 39 < s.size) => show groupsL (byteL s) = none by unfold groupsL; rw [if_pos (by rw [byteL_len]; exact h)])
  have E1 := kd (fun (h : ¬ 39 < s.size) => show groupsL (byteL s) = match dblL (byteL s) with
      | none => match grpL (byteL s) with
        | some l => if l.length = 8 then some (joinL [58] l) else none
        | none => none
      | some p => match sideL p.1, sideL p.2 with
        | some x, some y => if 7 < x.length + y.length then none else some (joinL [58] x ++ [58, 58] ++ joinL [58] y)
        | _, _ => none by
    rw [show groupsL (byteL s) = if 39 < (byteL s).length then none else
      match dblL (byteL s) with
      | none => match grpL (byteL s) with
        | some l => if l.length = 8 then some (joinL [58] l) else none
        | none => none
      | some p => match sideL p.1, sideL p.2 with
        | some x, some y => if 7 < x.length + y.length then none else some (joinL [58] x ++ [58, 58] ++ joinL [58] y)
        | _, _ => none from rfl, if_neg (by rw [byteL_len]; exact h)])
  have DB := kd (fun p (h : dblL (byteL s) = some p) => dblL_by (byteL_by s) h)
  have CV := kd (show cutV s = match dblL (byteL s) with
    | none => .tuple #[.string s, .string ⟨#[]⟩, .bool false]
    | some p => .tuple #[.string (strOfNums p.1), .string (strOfNums p.2), .bool true] from rfl)
  generalize groupsL (byteL s) = R at *
  generalize cutV s = V at *
  clear hm
  by_cases h39 : 39 < s.size
  · have d1 : decide ((39 : Int) < (s.size : Int)) = true := by simp; omega
    have E := kd (E0.out h39)
    clear E0 E1 CT GL
    go_enter Tryz.func57, Tryz.ntmps57
    go_wp2_with fail
    go_ret2
    exact GrsP.bad E.out (Below.refl _ _)
  have d1 : decide ((39 : Int) < (s.size : Int)) = false := by simp; omega
  have E2 := kd (E1.out h39)
  clear E0 E1
  cases hq : dblL (byteL s) with
  | none =>
    rw [hq] at CV E2
    dsimp only at CV E2
    rw [CV.out] at CT
    clear DB CV hq
    cases hg : grpL (byteL s) with
    | none =>
      rw [hg] at E2 GL
      dsimp only at E2
      clear hg
      go_enter Tryz.func57, Tryz.ntmps57
      go_wp2_with fail
      refine CT.out.mono ?_
      rintro e w1 ⟨rfl, hb⟩
      have B1 := kd hb; clear hb
      go_wp2_with fail
      refine (GL.out _ (HG.out.below B1.out)).mono ?_
      rintro e w2 ⟨rfl, hb⟩
      have B2 := kd (bthen B1.out hb); clear hb
      go_wp2_with (go_at_call 126; refine (Tryz.strings_Join_none none 0 _ _).mono ?_; rintro e w' ⟨rfl, rfl⟩)
      go_ret2
      exact GrsP.bad E2.out B2.out
    | some l =>
      have LB := kd (grpL_by (byteL_by s) hg)
      have LL := kd (grpL_len hg)
      rw [hg] at E2 GL
      dsimp only at E2
      clear hg
      have LN := kd (show l.length ≤ 1000 by have := LL.out.2; rw [SL.out] at this; omega)
      go_enter Tryz.func57, Tryz.ntmps57
      go_wp2_with fail
      refine CT.out.mono ?_
      rintro e w1 ⟨rfl, hb⟩
      have B1 := kd hb; clear hb
      go_wp2_with fail
      refine (GL.out _ (HG.out.below B1.out)).mono ?_
      rintro e w2 ⟨v, rfl, hx⟩
      have HX := kd hx
      obtain ⟨A, c, rfl⟩ := sxl_form hx
      have B2 := kd (bthen B1.out hx.bw)
      clear hx
      have JN := kd (joinx_any HX.out LB.out LL.out.1 LN.out)
      clear HX
      generalize joinL [58] l = jl at *
      obtain ⟨n, hn⟩ : ∃ n, l.length = n := ⟨_, rfl⟩
      rw [hn] at E2 JN ⊢
      clear LB LL LN hn
      by_cases h8 : n = 8
      · subst h8
        have E := kd (E2.out.trans (if_pos rfl))
        go_wp2_with fail
        refine JN.out.mono ?_
        rintro e w3 ⟨rfl, hb⟩
        have B3 := kd (bthen B2.out hb); clear hb
        go_wp2_with fail
        go_ret2
        exact GrsP.good E.out rfl B3.out
      · have E := kd (E2.out.trans (if_neg h8))
        have d8 : ((n : Int) == 8) = false := by simp; omega
        go_wp2_with fail
        refine JN.out.mono ?_
        rintro e w3 ⟨rfl, hb⟩
        have B3 := kd (bthen B2.out hb); clear hb
        go_wp2_with fail
        go_ret2
        exact GrsP.bad E.out B3.out
  | some p =>
    obtain ⟨pa, pb⟩ := p
    obtain ⟨ya, yb⟩ := DB.out _ hq
    have YA := kd ya; have YB := kd yb
    rw [hq] at CV E2
    dsimp only at CV E2 ya yb
    rw [CV.out] at CT
    have la := lit_beq ya []
    have lb := lit_beq yb []
    obtain ⟨ea, hea⟩ : ∃ b, (bl [] == pa) = b := ⟨_, rfl⟩
    obtain ⟨eb, heb⟩ : ∃ b, (bl [] == pb) = b := ⟨_, rfl⟩
    rw [hea] at la
    rw [heb] at lb
    have EA := kd (nil_beq hea)
    have EB := kd (nil_beq heb)
    clear hea heb
    have zl := dblL_len hq
    rw [SL.out] at zl
    dsimp only at zl
    clear DB CV hq GL
    have GA := kd (fun w h => grouplist_any (strOfNums pa) w (by rw [num_size]; omega) h)
    have GB := kd (fun w h => grouplist_any (strOfNums pb) w (by rw [num_size]; omega) h)
    rw [byteL_str ya] at GA
    rw [byteL_str yb] at GB
    have FA := kd (fun x (h : sideL pa = some x) => sideL_ok ya h)
    have FB := kd (fun x (h : sideL pb = some x) => sideL_ok yb h)
    have SA := kd (show sideL pa = if pa = [] then some [] else grpL pa from rfl)
    have SBB := kd (show sideL pb = if pb = [] then some [] else grpL pb from rfl)
    generalize sideL pa = Ra at *
    generalize sideL pb = Rb at *
    generalize grpL pa = Ga at *
    generalize grpL pb = Gb at *
    clear ya yb
    go_enter Tryz.func57, Tryz.ntmps57
    go_wp2_with fail
    refine CT.out.mono ?_
    rintro e w1 ⟨rfl, hb⟩
    have B1 := kd hb; clear hb CT
    go_upto_if 38 with (fail)
    go_cut [9, 11] (fun v b wx => SideP w Ra v b wx)
    case first =>
      cases ea
      case true =>
        have ER := kd (SA.out.trans (if_pos (EA.out.1 rfl)))
        go_wp2_with fail
        go_meet
        rw [ER.out]
        exact ⟨rfl, (VX.nil _ _ _).step0 B1.out⟩
      case false =>
        have ER := kd (SA.out.trans (if_neg (fun h => by have := EA.out.2 h; cases this)))
        go_wp2_with fail
        refine (GA.out _ (HG.out.below B1.out)).mono ?_
        intro e w2 hgr
        cases Rg : Ga with
        | none =>
          rw [Rg] at hgr ER
          obtain ⟨rfl, hb⟩ := hgr
          have BB := kd (bthen B1.out hb); clear hb
          go_wp2_with fail
          go_meet
          rw [ER.out]
          exact ⟨rfl, rfl, BB.out⟩
        | some l =>
          rw [Rg] at hgr ER
          obtain ⟨v, rfl, hx⟩ := hgr
          have BB := kd (hx.base B1.out); clear hx
          go_wp2_with fail
          go_meet
          rw [ER.out]
          exact ⟨rfl, BB.out⟩
    case rest =>
    obtain ⟨wxa, rfl⟩ : ∃ z : World, z = wc := ⟨_, rfl⟩
    have C1 := kd hcut
    clear hcut GA EA SA B1
    go_upto_if 45 with (fail)
    go_cut [10, 12] (fun v b wx => SideP w Ra u9 u11 wx ∧ SideP w Rb v b wx)
    case first =>
      cases eb
      case true =>
        have ER := kd (SBB.out.trans (if_pos (EB.out.1 rfl)))
        go_wp2_with fail
        go_meet
        refine ⟨C1.out, ?_⟩
        rw [ER.out]
        exact ⟨rfl, (VX.nil _ _ _).step0 C1.out.bw⟩
      case false =>
        have ER := kd (SBB.out.trans (if_neg (fun h => by have := EB.out.2 h; cases this)))
        go_wp2_with fail
        refine (GB.out _ (HG.out.below C1.out.bw)).mono ?_
        intro e w2 hgr
        cases rg : Gb with
        | none =>
          rw [rg] at hgr ER
          obtain ⟨rfl, hb⟩ := hgr
          have BB := kd (bthen C1.out.bw hb)
          have C2 := kd (C1.out.step hb)
          clear hb
          go_wp2_with fail
          go_meet
          refine ⟨C2.out, ?_⟩
          rw [ER.out]
          exact ⟨rfl, rfl, BB.out⟩
        | some l =>
          rw [rg] at hgr ER
          obtain ⟨v, rfl, hx⟩ := hgr
          have BB := kd (hx.base C1.out.bw)
          have C2 := kd (C1.out.step hx.bw)
          clear hx
          go_wp2_with fail
          go_meet
          refine ⟨C2.out, ?_⟩
          rw [ER.out]
          exact ⟨rfl, BB.out⟩
    case rest =>
    obtain ⟨wxb, rfl⟩ : ∃ z : World, z = wc := ⟨_, rfl⟩
    obtain ⟨h1, h2⟩ := hcut
    clear C1 GB EB SBB
    have BW := kd h1.bw
    cases ra : Ra with
    | none =>
      rw [ra] at h1 E2
      obtain ⟨rfl, rfl, _⟩ := h1
      have E := kd (show R = none from E2.out)
      clear h2
      go_wp2_with fail
      go_ret2
      exact GrsP.bad E.out BW.out
    | some x =>
      obtain ⟨xb, x4, xl⟩ := FA.out x ra
      rw [ra] at h1 E2
      obtain ⟨rfl, hx⟩ := h1
      cases rb : Rb with
      | none =>
        rw [rb] at h2 E2
        obtain ⟨rfl, rfl, _⟩ := h2
        have E := kd (show R = none from E2.out)
        clear hx
        go_wp2_with fail
        go_ret2
        exact GrsP.bad E.out BW.out
      | some y =>
        obtain ⟨yb, y4, yl⟩ := FB.out y rb
        rw [rb] at h2 E2
        obtain ⟨rfl, hy⟩ := h2
        dsimp only at E2
        have HX := kd hx; have HY := kd hy
        obtain ⟨A1, c1, rfl⟩ := sxl_form hx
        obtain ⟨A2, c2, rfl⟩ := sxl_form hy
        have JX := kd (joinx_any HX.out xb x4 (by omega))
        have JY := kd (fun w3 (h : Below wxb.heap.size wxb w3) => joinx_any (HY.out.step h) yb y4 (by omega))
        have LX := joinL_len [58] 4 x x4
        have LY := joinL_len [58] 4 y y4
        have BX := kd (joinL_by2 (sep := [58]) (by unfold By; decide) xb)
        have BY := kd (joinL_by2 (sep := [58]) (by unfold By; decide) yb)
        rw [show ([58] : List Int).length = 1 from rfl] at LX LY
        generalize joinL [58] x = jx at *
        generalize joinL [58] y = jy at *
        obtain ⟨n, hn⟩ : ∃ n, x.length = n := ⟨_, rfl⟩
        obtain ⟨m, hm2⟩ : ∃ n, y.length = n := ⟨_, rfl⟩
        rw [hn, hm2] at E2 ⊢
        rw [hn] at JX LX xl
        rw [hm2] at JY LY yl
        have nb : n ≤ 40 := by omega
        have mb : m ≤ 40 := by omega
        have sx := num_size jx
        have sy := num_size jy
        clear hx hy FA FB xb x4 yb y4 hn hm2 HX HY
        by_cases h7 : 7 < n + m
        · have E := kd (E2.out.trans (if_pos h7))
          have d7 : decide ((7 : Int) < (n : Int) + (m : Int)) = true := by simp; omega
          have d8 : decide (7 < n + m) = true := decide_eq_true h7
          go_wp2_with fail
          go_ret2
          exact GrsP.bad E.out BW.out
        · have E := kd (E2.out.trans (if_neg h7))
          have d7 : decide ((7 : Int) < (n : Int) + (m : Int)) = false := by simp; omega
          have d8 : decide (7 < n + m) = false := decide_eq_false h7
          have k1 : ¬ 9223372036854775807 < (strOfNums jx).size + 2 := by omega
          have k2 : ¬ 9223372036854775807 < (strOfNums jx).size + 2 + (strOfNums jy).size := by omega
          go_wp2_with fail
          refine JX.out.mono ?_
          rintro e w3 ⟨rfl, hb⟩
          have J2 := kd (JY.out w3 hb)
          have B3 := kd (bthen BW.out hb)
          clear hb JX JY
          go_wp2_with fail
          refine J2.out.mono ?_
          rintro e w4 ⟨rfl, hb⟩
          have B4 := kd (bthen B3.out hb)
          clear hb J2
          go_wp2_with fail
          go_ret2
          exact GrsP.good E.out (by rw [show (⟨#[58, 58]⟩ : ByteArray) = strOfNums [58, 58] from rfl, str_app, str_app]) B4.out

theorem ltL_irr : ∀ a : List Int, ltL a a = false
  | [] => rfl
  | c :: a => by unfold ltL; rw [if_neg (by omega), if_neg (by omega)]; exact ltL_irr a
theorem ltL_asym : ∀ {a b : List Int}, ltL a b = true → ltL b a = false
  | [], [], h => by cases h
  | [], _ :: _, _ => rfl
  | _ :: _, [], h => by cases h
  | c :: a, d :: b, h => by
    unfold ltL at h ⊢
    split at h
    · rw [if_neg (by omega), if_pos (by assumption)]
    · split at h
      · cases h
      · rw [if_neg (by assumption), if_neg (by assumption)]; exact ltL_asym h
theorem ltL_tri : ∀ {a b : List Int}, ltL a b = false → ltL b a = false → a = b
  | [], [], _, _ => rfl
  | [], _ :: _, h, _ => by cases h
  | _ :: _, [], _, h => by cases h
  | c :: a, d :: b, h, h2 => by
    unfold ltL at h h2
    split at h
    · cases h
    · split at h
      · rw [if_pos (by assumption)] at h2; cases h2
      · rw [if_neg (by assumption), if_neg (by assumption)] at h2
        rw [ltL_tri h h2, show c = d by omega]
def leL (a b : List Int) : Bool := !ltL b a
theorem leL_trans : ∀ {a b c : List Int}, leL a b = true → leL b c = true → leL a c = true
  | [], _, [], _, _ => rfl
  | [], _, _ :: _, _, _ => rfl
  | _ :: _, [], _, h, _ => by simp [leL, ltL] at h
  | _ :: _, _ :: _, [], _, h => by simp [leL, ltL] at h
  | x :: a, y :: b, z :: c, h, h2 => by
    unfold leL ltL at h h2 ⊢
    have ih := @leL_trans a b c
    unfold leL at ih
    by_cases hyx : y < x
    · rw [if_pos hyx] at h; cases h
    · by_cases hzy : z < y
      · rw [if_pos hzy] at h2; cases h2
      · rw [if_neg hyx] at h
        rw [if_neg hzy] at h2
        rw [if_neg (by omega)]
        by_cases hxz : x < z
        · rw [if_pos hxz]; rfl
        · rw [if_neg hxz]
          rw [if_neg (by omega)] at h h2
          exact ih h h2
theorem leL_anti {a b : List Int} (h : leL a b = true) (h2 : leL b a = true) : a = b := by
  unfold leL at h h2
  exact ltL_tri (by simpa using h2) (by simpa using h)
def Asc (l : List Pm) : Prop := l.Pairwise fun p q => leL p.n q.n = true
theorem ins_mem (p : Pm) : ∀ (l : List Pm) (q : Pm), q ∈ insPm p l ↔ q = p ∨ q ∈ l
  | [], q => by simp [insPm]
  | r :: l, q => by
    unfold insPm
    split
    · simp
    · rw [List.mem_cons, ins_mem p l q, List.mem_cons]
      constructor
      · rintro (h | h | h)
        · exact .inr (.inl h)
        · exact .inl h
        · exact .inr (.inr h)
      · rintro (h | h | h)
        · exact .inr (.inl h)
        · exact .inl h
        · exact .inr (.inr h)
theorem ins_asc (p : Pm) : ∀ {l : List Pm}, Asc l → Asc (insPm p l)
  | [], _ => by unfold insPm Asc; simp
  | q :: l, h => by
    unfold insPm
    have h1 := List.pairwise_cons.1 h
    split
    · rename_i hlt
      have hle : leL p.n q.n = true := by unfold leL; rw [ltL_asym hlt]; rfl
      refine List.pairwise_cons.2 ⟨fun r hr => ?_, h⟩
      rcases List.mem_cons.1 hr with rfl | hr
      · exact hle
      · exact leL_trans hle (h1.1 r hr)
    · rename_i hlt
      refine List.pairwise_cons.2 ⟨fun r hr => ?_, ins_asc p h1.2⟩
      rcases (ins_mem p l r).1 hr with rfl | hr
      · unfold leL; simpa using hlt
      · exact h1.1 r hr
theorem ins_perm (p : Pm) : ∀ l : List Pm, (insPm p l).Perm (p :: l)
  | [] => List.Perm.refl _
  | q :: l => by
    unfold insPm
    split
    · exact List.Perm.refl _
    · exact ((ins_perm p l).cons q).trans (List.Perm.swap p q l)
theorem ins_end (p : Pm) : ∀ {l : List Pm}, (∀ q ∈ l, leL q.n p.n = true) → insPm p l = l ++ [p]
  | [], _ => rfl
  | q :: l, h => by
    have h1 := h q (by simp)
    unfold leL at h1
    unfold insPm
    rw [if_neg (by simpa using h1), ins_end p (fun r hr => h r (by simp [hr]))]; rfl
theorem sort_fold (l : List Pm) : ∀ acc : List Pm, Asc acc → Asc (l.foldl (fun acc p => insPm p acc) acc) ∧ (l.foldl (fun acc p => insPm p acc) acc).Perm (acc ++ l) := by
  induction l with
  | nil => intro acc h; exact ⟨h, by simp⟩
  | cons p l ih =>
    intro acc h
    obtain ⟨h1, h2⟩ := ih (insPm p acc) (ins_asc p h)
    refine ⟨h1, h2.trans ?_⟩
    exact ((ins_perm p acc).append_right l).trans (List.perm_middle.symm)
theorem sort_asc (l : List Pm) : Asc (sortPm l) := (sort_fold l [] List.Pairwise.nil).1
theorem sort_perm (l : List Pm) : (sortPm l).Perm l := (sort_fold l [] List.Pairwise.nil).2
theorem sort_snoc (l : List Pm) (p : Pm) : sortPm (l ++ [p]) = insPm p (sortPm l) := by unfold sortPm; rw [List.foldl_append]; rfl
theorem sort_len (l : List Pm) : (sortPm l).length = l.length := (sort_perm l).length_eq
theorem sort_id {l : List Pm} (h : Asc l) : sortPm l = l := by
  suffices H : ∀ (m acc : List Pm), Asc (acc ++ m) → m.foldl (fun acc p => insPm p acc) acc = acc ++ m from H l [] h
  intro m
  induction m with
  | nil => intro acc _; simp
  | cons p m ih =>
    intro acc h
    rw [List.foldl_cons, ins_end p (fun q hq => (List.pairwise_append.1 h).2.2 q hq p (by simp)), ih _ (by rw [List.append_assoc]; exact h), List.append_assoc]
    rfl
theorem sort_one {l m : List Pm} (hp : l.Perm m) (hn : (l.map (·.n)).Nodup) : sortPm l = sortPm m := by
  have hs : (sortPm l).Perm (sortPm m) := (sort_perm l).trans (hp.trans (sort_perm m).symm)
  refine List.Perm.eq_of_pairwise (le := fun p q : Pm => leL p.n q.n = true) (fun p q hp1 hq1 h1 h2 => ?_) (sort_asc l) (sort_asc m) hs
  have e : p.n = q.n := leL_anti h1 h2
  have hp2 : p ∈ l := (sort_perm l).mem_iff.1 hp1
  have hq2 : q ∈ l := hp.mem_iff.2 ((sort_perm m).mem_iff.1 hq1)
  obtain ⟨i, hi, rfl⟩ := List.mem_iff_getElem.1 hp2
  obtain ⟨j, hj, rfl⟩ := List.mem_iff_getElem.1 hq2
  have hij : i = j := by
    refine (List.getElem_inj (xs := l.map (·.n)) (h₀ := by simpa using hi) (h₁ := by simpa using hj) hn).1 ?_
    simpa using e
  subst hij; rfl
/- The fields of a list in normal form. -/
structure FOK (k : Int) (p : Pm) : Prop where
  n : By p.n
  v : By p.v
  ne : p.n ≠ []
  low : lowS p.n = p.n
  cn : clean p.n = true
  cv : clean p.v = true
  h : ¬ ((k = 2 ∧ p.h = false) ∨ (k = 1 ∧ p.h ≠ !p.v.isEmpty))
structure LOK (k : Int) (l : List Pm) : Prop where
  f : ∀ p ∈ l, FOK k p
  nd : (l.map (·.n)).Nodup
  len : l.length ≤ 16
def PmBy (l : List Pm) : Prop := ∀ p ∈ l, By p.n ∧ By p.v
theorem holdsL_no {l : List Pm} {n : List Int} : holdsL l n = false ↔ n ∉ l.map (·.n) := by
  unfold holdsL
  rw [Bool.eq_false_iff, Ne, List.any_eq_true, List.mem_map]
  refine not_congr ⟨fun ⟨p, hp, h⟩ => ⟨p, hp, by simpa using h⟩, fun ⟨p, hp, h⟩ => ⟨p, hp, by simpa using h⟩⟩
def lowP (p : Pm) : Pm := ⟨lowS p.n, p.v, p.h⟩
theorem fldsN_some {k : Int} : ∀ {l n m : List Pm}, PmBy l → fldsN k l n = some m → m = n ++ l.map lowP ∧ (∀ p ∈ l.map lowP, FOK k p) ∧ (∀ p ∈ l.map lowP, p.n ∉ n.map (·.n)) ∧ ((l.map lowP).map (·.n)).Nodup
  | [], n, m, _, h => by
    unfold fldsN at h
    injection h with h
    subst h
    exact ⟨by simp, (fun p hp => by cases hp), (fun p hp => by cases hp), List.nodup_nil⟩
  | p :: l, n, m, hb, h => by
    unfold fldsN at h
    split at h
    · cases h
    · rename_i h1
      split at h
      · cases h
      · rename_i h2
        obtain ⟨e, h3, h4, h5⟩ := fldsN_some (fun q hq => hb q (by simp [hq])) h
        have hh : holdsL n (lowS p.n) = false := by cases hx : holdsL n (lowS p.n) with
          | false => rfl
          | true => exact absurd (.inr (.inr (.inr hx))) h1
        have hF : FOK k (lowP p) := ⟨lowS_by (hb p (by simp)).1, (hb p (by simp)).2, fun h => h1 (.inl h), lowS_idem _, by
          cases hx : clean (lowP p).n with
          | true => rfl
          | false => exact absurd (.inr (.inl hx)) h1, by
          cases hx : clean (lowP p).v with
          | true => rfl
          | false => exact absurd (.inr (.inr (.inl hx))) h1, h2⟩
        rw [List.map_cons]
        refine ⟨by rw [e, List.append_assoc]; rfl, fun q hq => ?_, fun q hq => ?_, ?_⟩
        · rcases List.mem_cons.1 hq with rfl | hq
          · exact hF
          · exact h3 q hq
        · rcases List.mem_cons.1 hq with rfl | hq
          · exact holdsL_no.1 hh
          · have := h4 q hq
            rw [List.map_append, List.mem_append, not_or] at this
            exact this.1
        · rw [List.map_cons, List.nodup_cons]
          refine ⟨fun hm => ?_, h5⟩
          obtain ⟨q, hq, e⟩ := List.mem_map.1 hm
          have := h4 q hq
          rw [List.map_append, List.mem_append, not_or] at this
          exact this.2 (by rw [e]; simp [lowP])
theorem fldsN_ok {k : Int} : ∀ {l n : List Pm}, (∀ p ∈ l.map lowP, FOK k p) → (∀ p ∈ l.map lowP, p.n ∉ n.map (·.n)) → ((l.map lowP).map (·.n)).Nodup → fldsN k l n = some (n ++ l.map lowP)
  | [], n, _, _, _ => by unfold fldsN; simp
  | p :: l, n, h3, h4, h5 => by
    rw [List.map_cons] at h3 h4 h5
    have hF := h3 (lowP p) (by simp)
    rw [List.map_cons, List.nodup_cons] at h5
    unfold fldsN
    rw [if_neg (by
      rintro (h | h | h | h)
      · exact hF.ne h
      · rw [show clean (lowS p.n) = true from hF.cn] at h; cases h
      · rw [show clean p.v = true from hF.cv] at h; cases h
      · rw [show holdsL n (lowS p.n) = false from holdsL_no.2 (h4 (lowP p) (by simp))] at h; cases h), if_neg (show ¬ ((k = 2 ∧ p.h = false) ∨ (k = 1 ∧ p.h ≠ !p.v.isEmpty)) from hF.h)]
    rw [fldsN_ok (fun q hq => h3 q (by simp [hq])) (fun q hq => ?_) h5.2, List.map_cons, List.append_assoc]
    · rfl
    · rw [List.map_append, List.mem_append, not_or]
      refine ⟨h4 q (by simp [hq]), fun hm => h5.1 ?_⟩
      simp at hm
      exact List.mem_map.2 ⟨q, hq, hm⟩
theorem LOK.sort {k : Int} {l : List Pm} (h : LOK k l) : LOK k (sortPm l) := ⟨fun p hp => h.f p ((sort_perm l).mem_iff.1 hp), (((sort_perm l).map _).nodup_iff).2 h.nd, by rw [sort_len]; exact h.len⟩
theorem fldsL_iff {k : Int} {l m : List Pm} (hb : PmBy l) : fldsL l k = some m ↔ LOK k (l.map lowP) ∧ m = sortPm (l.map lowP) := by
  unfold fldsL
  constructor
  · intro h
    split at h
    · cases h
    · rename_i hl
      rw [Option.map_eq_some_iff] at h
      obtain ⟨x, hx, e⟩ := h
      obtain ⟨h1, h2, h3, h4⟩ := fldsN_some hb hx
      rw [List.nil_append] at h1
      exact ⟨⟨h2, h4, by rw [List.length_map]; omega⟩, by rw [← e, h1]⟩
  · rintro ⟨h, rfl⟩
    have hl := h.len
    rw [List.length_map] at hl
    rw [if_neg (by omega), fldsN_ok h.f (fun p _ => by simp) h.nd]; rfl
theorem fldsL_ok {k : Int} {l m : List Pm} (hb : PmBy l) (h : fldsL l k = some m) : LOK k m ∧ Asc m := by
  obtain ⟨h1, rfl⟩ := (fldsL_iff hb).1 h
  exact ⟨h1.sort, sort_asc _⟩
theorem LOK.by {k : Int} {l : List Pm} (h : LOK k l) : PmBy l := fun p hp => ⟨(h.f p hp).n, (h.f p hp).v⟩
end Go.Proofs.YthfonniieaiocaaGreatDoor
