/- Plain law: hosts of numbers, of groups and of labels. Contracts: the law's small and group, the reference's decimal. -/
import Derived.Test.YthfonniieaiocaaGreatDoorVc
import Derived.Test.YthfonniieaiocaaGreatDoorYa
import Derived.BigQuiet
set_option linter.unusedVariables false
set_option linter.unusedSimpArgs false
namespace Go.Proofs.YthfonniieaiocaaGreatDoor
open Go.RowKit

theorem decN_no {n : Nat} {c : Int} (h : isDig c = false) : c ∉ decL (n : Int) := fun hm => by
  have := List.all_eq_true.1 (dec_all n).1 c hm
  rw [h] at this; cases this
theorem numOK_dec (n : Nat) : numOK (decL (n : Int)) = decide (n ≤ 255) := by
  obtain ⟨h1, h2, h3⟩ := dec_all n
  have hne : decL (n : Int) ≠ [] := by intro e; rw [e] at h3; simp at h3
  rw [Bool.eq_iff_iff, numOK_iff, decide_eq_true_iff, h2]
  constructor
  · rintro ⟨_, h, _⟩; omega
  · intro h; exact ⟨⟨h1, hne⟩, by omega, rfl⟩
theorem decs_cut {l : List Nat} (h : l ≠ []) : cutL 46 (joinL [46] (l.map fun n : Nat => decL (n : Int))) = l.map fun n : Nat => decL (n : Int) :=
  cut_join 46 (by simpa using h) fun p hp => by
    obtain ⟨n, _, rfl⟩ := List.mem_map.1 hp
    exact decN_no (by decide)
theorem dec_head (n : Nat) (r : List Int) : isDig ((decL (n : Int) ++ r).getD 0 0) = true := by
  obtain ⟨h1, _, h3⟩ := dec_all n
  cases h : decL (n : Int) with
  | nil => rw [h] at h3; simp at h3
  | cons c t => rw [h] at h1; exact List.all_eq_true.1 h1 c (by simp)
/-- Four numbers are a host exactly if each is at most 255. -/
theorem four_law (a b c d : Nat) : hostL (joinL [46] ([a, b, c, d].map fun n : Nat => decL (n : Int))) = if ((decide (a ≤ 255) && decide (b ≤ 255)) && decide (c ≤ 255)) && decide (d ≤ 255) then some (joinL [46] ([a, b, c, d].map fun n : Nat => decL (n : Int))) else none := by
  rw [← rhostL_eq]
  have hc := decs_cut (l := [a, b, c, d]) (by simp)
  have hh : isDig ((joinL [46] ([a, b, c, d].map fun n : Nat => decL (n : Int))).getD 0 0) = true := dec_head a _
  unfold rhostL
  rw [if_neg (fun h => by rw [h.2.1] at hh; cases hh), rhostD_eq]
  have hall : (cutL 46 (joinL [46] ([a, b, c, d].map fun n : Nat => decL (n : Int)))).all numOK = (((decide (a ≤ 255) && decide (b ≤ 255)) && decide (c ≤ 255)) && decide (d ≤ 255)) := by
    rw [hc]
    simp only [List.map_cons, List.map_nil, List.all_cons, List.all_nil, Bool.and_true, numOK_dec, Bool.and_assoc]
  have hword : (cutL 46 (joinL [46] ([a, b, c, d].map fun n : Nat => decL (n : Int)))).any wordL = false := by
    rw [hc, List.any_eq_false]
    intro p hp
    obtain ⟨n, _, rfl⟩ := List.mem_map.1 hp
    unfold wordL
    rw [Bool.not_eq_true, List.any_eq_false]
    intro x hx
    rw [List.all_eq_true.1 (dec_all n).1 x hx]; simp
  have hN : namedL (joinL [46] ([a, b, c, d].map fun n : Nat => decL (n : Int))) = false := by
    unfold namedL; rw [hword]; simp
  rw [hN, if_neg (by decide : ¬ (false = true))]
  generalize hG : (((decide (a ≤ 255) && decide (b ≤ 255)) && decide (c ≤ 255)) && decide (d ≤ 255)) = G at hall ⊢
  have hL : (cutL 46 (joinL [46] ([a, b, c, d].map fun n : Nat => decL (n : Int)))).length = 4 := by rw [hc]; rfl
  cases G with
  | true =>
    have : numbersL (joinL [46] ([a, b, c, d].map fun n : Nat => decL (n : Int))) = true := by
      unfold numbersL
      rw [hall, hL, decide_eq_true (numbers_len hall hL)]; rfl
    rw [this]
  | false =>
    have : numbersL (joinL [46] ([a, b, c, d].map fun n : Nat => decL (n : Int))) = false := by
      unfold numbersL
      rw [hall]; simp
    rw [this]
def hexD (n : Nat) : Int := if n < 10 then 48 + (n : Int) else 87 + (n : Int)
/-- A number's hexadecimal digits. -/
def hexG (n : Nat) : List Int := if n < 16 then [hexD n] else hexG (n / 16) ++ [hexD (n % 16)]
theorem hexG_small {n : Nat} (h : n < 16) : hexG n = [hexD n] := by rw [hexG, if_pos h]
theorem hexG_big {n : Nat} (h : ¬ n < 16) : hexG n = hexG (n / 16) ++ [hexD (n % 16)] := by rw [hexG, if_neg h]
theorem hexD_ok {n : Nat} (h : n < 16) : 0 ≤ hexV (hexD n) ∧ lowC (hexD n) = hexD n := by
  unfold hexD hexV lowC
  by_cases h1 : n < 10
  · rw [if_pos h1, if_pos (by omega)]; exact ⟨by omega, by rw [if_neg (by omega)]⟩
  · rw [if_neg h1, if_neg (by omega), if_pos (by omega)]; exact ⟨by omega, by rw [if_neg (by omega)]⟩
theorem hexG_ok : ∀ n : Nat, (∀ c ∈ hexG n, 0 ≤ hexV c ∧ lowC c = c) ∧ 1 ≤ (hexG n).length ∧ (n ≠ 0 → (hexG n).getD 0 0 ≠ 48) := by
  intro n
  induction n using Nat.strongRecOn with
  | _ n ih =>
  by_cases h : n < 16
  · rw [hexG_small h]
    refine ⟨fun c hc => ?_, by simp, fun h0 => ?_⟩
    · rw [List.mem_singleton] at hc; subst hc; exact hexD_ok h
    · show hexD n ≠ 48
      unfold hexD; split <;> omega
  · obtain ⟨h1, h2, h3⟩ := ih (n / 16) (by omega)
    rw [hexG_big h]
    refine ⟨fun c hc => ?_, by simp, fun _ => ?_⟩
    · rcases List.mem_append.1 hc with hc | hc
      · exact h1 c hc
      · rw [List.mem_singleton] at hc; subst hc; exact hexD_ok (by omega)
    · have := h3 (by omega)
      cases hq : hexG (n / 16) with
      | nil => rw [hq] at h2; simp at h2
      | cons c t => rw [hq] at this; exact this
theorem hexG_len (n : Nat) : ∀ k : Nat, n < 16 ^ (k + 1) → (hexG n).length ≤ k + 1 := by
  intro k
  induction k generalizing n with
  | zero => intro h; rw [hexG_small (by simpa using h)]; simp
  | succ k ih =>
    intro h
    by_cases h2 : n < 16
    · rw [hexG_small h2]; simp
    · rw [hexG_big h2, List.length_append]
      have := ih (n / 16) ((Nat.div_lt_iff_lt_mul (by decide)).2 (by rwa [Nat.pow_succ] at h))
      rw [List.length_singleton]
      omega
theorem hexG_grp {n : Nat} (h : n < 65536) : grpOK (hexG n) = true ∧ grpN (hexG n) = hexG n := by
  obtain ⟨h1, h2, h3⟩ := hexG_ok n
  refine ⟨grpOK_iff.2 ⟨⟨h2, hexG_len n 3 (by omega)⟩, fun c hc => (h1 c hc).1⟩, ?_⟩
  have hl : lowS (hexG n) = hexG n := (List.map_congr_left fun c hc => (h1 c hc).2).trans (List.map_id _)
  rw [grpN_eq, hl]
  by_cases h0 : n = 0
  · subst h0; rw [hexG_small (by decide)]; rfl
  · have h4 := h3 h0
    have : (hexG n).dropWhile (· == 48) = hexG n := by
      cases hq : hexG n with
      | nil => rfl
      | cons c t =>
        rw [hq] at h4
        have h5 : (c == 48) = false := by simpa using h4
        rw [List.dropWhile_cons, h5]; rfl
    rw [this, if_neg (by intro e; rw [e] at h2; simp at h2)]
theorem grps_ok {l : List Nat} (h : ∀ n ∈ l, n < 65536) : GrpOK (l.map hexG) := fun g hg => by
  obtain ⟨n, hn, rfl⟩ := List.mem_map.1 hg
  exact hexG_grp (h n hn)
theorem host_brack {s g : List Int} (h : groupsL s = some g) : hostL ([91] ++ s ++ [93]) = some ([91] ++ g ++ [93]) := by
  have e0 : ([91] ++ s ++ [93] : List Int).length = s.length + 2 := by simp
  have e1 : ([91] ++ s ++ [93] : List Int).getD (([91] ++ s ++ [93] : List Int).length - 1) 0 = 93 := by
    rw [e0, show s.length + 2 - 1 = ([91] ++ s : List Int).length by simp]
    exact getD_mid _ _ _
  have e2 : subL ([91] ++ s ++ [93]) 1 (([91] ++ s ++ [93] : List Int).length - 1) = s := by
    have := sub_seg [91] s [93]
    rw [e0]
    rw [List.append_assoc]
    rw [show s.length + 2 - 1 = ([91] : List Int).length + s.length by simp; omega]
    exact this
  unfold hostL
  rw [if_pos ⟨by rw [e0]; omega, rfl, e1⟩, e2, h]
  rfl
/-- Eight groups are a host. -/
theorem eight_law {l : List Nat} (h : ∀ n ∈ l, n < 65536) (h8 : l.length = 8) : hostL ([91] ++ joinL [58] (l.map hexG) ++ [93]) = some ([91] ++ joinL [58] (l.map hexG) ++ [93]) := by
  have hg := grps_ok h
  have hne : l.map hexG ≠ [] := by intro e; have := congrArg List.length e; simp [h8] at this
  refine host_brack ?_
  have := join_len4 hg
  rw [List.length_map, h8] at this
  unfold groupsL
  rw [if_neg (by omega), dbl_join0 hg hne]
  dsimp only
  rw [grpL_join hg hne]
  dsimp only
  rw [if_pos (by rw [List.length_map, h8])]
/-- Two colons stand for some groups. -/
theorem gap_law {l m : List Nat} (hl : ∀ n ∈ l, n < 65536) (hm : ∀ n ∈ m, n < 65536) (h7 : l.length + m.length ≤ 7) : hostL ([91] ++ (joinL [58] (l.map hexG) ++ ([58, 58] ++ joinL [58] (m.map hexG))) ++ [93]) = some ([91] ++ (joinL [58] (l.map hexG) ++ ([58, 58] ++ joinL [58] (m.map hexG))) ++ [93]) := by
  have hg := grps_ok hl
  have hk := grps_ok hm
  refine host_brack ?_
  have h1 := join_len4 hg
  have h2 := join_len4 hk
  rw [List.length_map] at h1 h2
  unfold groupsL
  rw [if_neg (by simp only [List.length_append, List.length_cons, List.length_nil]; omega), dbl_join2 hg]
  dsimp only
  rw [sideL_join hg, sideL_join hk]
  dsimp only
  rw [if_neg (by simp only [List.length_map]; omega)]
  simp
/-- A label has at most 63 characters. -/
theorem label_law {n : Nat} (h1 : 1 ≤ n) (h2 : n ≤ 200) : hostL ([88, 46] ++ List.replicate n 97) = if n ≤ 63 then some ([120, 46] ++ List.replicate n 97) else none := by
  rw [← rhostL_eq]
  unfold rhostL
  rw [if_neg (fun h => by have := h.2.1; simp at this)]
  have hc : cutL 46 ([88, 46] ++ List.replicate n 97) = [[88], List.replicate n 97] := by
    have := cut_app 46 (p := [88]) (List.replicate n 97) (by decide)
    rw [show [88, 46] ++ List.replicate n 97 = [88] ++ 46 :: List.replicate n (97 : Int) from rfl, this, cut_no 46 (fun hm => by have := List.eq_of_mem_replicate hm; omega)]
  have hlab : labOK (List.replicate n 97) = decide (n ≤ 63) := by
    unfold labOK
    have e1 : (List.replicate n (97 : Int)).getD 0 0 = 97 := by cases n with | zero => omega | succ n => rfl
    have e2 : (List.replicate n (97 : Int)).getD (n - 1) 0 = 97 := by
      rw [List.getD_eq_getElem?_getD, List.getElem?_replicate, if_pos (by omega)]; rfl
    have e3 : (List.replicate n (97 : Int)).all labC = true := List.all_eq_true.2 fun c hc => by rw [List.eq_of_mem_replicate hc]; decide
    rw [List.length_replicate, e1, e2, e3, decide_eq_true h1]; simp
  unfold rhostD
  rw [hc]
  by_cases h63 : n ≤ 63
  · rw [if_pos h63, if_pos]
    · simp [lowS, lowC]
    · refine ⟨by simp only [List.all_cons, List.all_nil, hlab, decide_eq_true h63]; decide, by simp; omega, .inl ?_⟩
      rw [List.any_cons, show wordL [88] = true by decide]; rfl
  · rw [if_neg h63, if_neg]
    rintro ⟨h, _⟩
    simp only [List.all_cons, List.all_nil, hlab, decide_eq_false h63] at h
    simp at h
end Go.Proofs.YthfonniieaiocaaGreatDoor
namespace Go.Proofs.YthfonniieaiocaaGreatDoor
open Go.RowKit

theorem dec_size {n : Int} (h0 : 0 ≤ n) (h1 : n ≤ 9223372036854775807) : (decL n).length ≤ 21 := by
  unfold decL bl
  rw [List.length_map]
  exact Lib.itoa_length_le n (by omega) h1
theorem tens_at : ∀ m : Nat, m < 10 → (⟨#[48, 49, 50, 51, 52, 53, 54, 55, 56, 57]⟩ : ByteArray).extract m (m + 1) = strOfNums [48 + (m : Int)] := by decide +kernel
theorem hexes_at : ∀ m : Nat, m < 16 → (⟨#[48, 49, 50, 51, 52, 53, 54, 55, 56, 57, 97, 98, 99, 100, 101, 102]⟩ : ByteArray).extract m (m + 1) = strOfNums [hexD m] := by decide +kernel
theorem hexG_size : ∀ n : Nat, (hexG n).length ≤ n + 1 := by
  intro n
  induction n using Nat.strongRecOn with
  | _ n ih =>
  by_cases h : n < 16
  · rw [hexG_small h]; simp
  · rw [hexG_big h, List.length_append]
    have := ih (n / 16) (by omega)
    simp
    omega
set_option maxRecDepth 100000 in
theorem small_any : ∀ (n : Nat) (w : World), n ≤ 9223372036854775806 → Calls Tryz.prog 31 #[.int .i64 n] w fun e w' => e = .returned (.string (strOfNums (decL n))) ∧ Below w.heap.size w w' := by
  intro n
  induction n using Nat.strongRecOn with
  | _ n ih =>
  intro w hn
  by_cases h : n < 10
  · have E := Lib.hid (dd_small h)
    have T := Lib.hid (tens_at n h)
    have d1 : decide (n < 10) = true := by simp [h]
    have d2 : decide ((n : Int) < 10) = true := by simp; omega
    clear ih
    go_enter Tryz.func31, Tryz.ntmps31
    go_wp2_with fail
    go_ret
    exact ⟨by rw [E.out, ← T.out]; rfl, Below.refl _ _⟩
  · obtain ⟨m, hm⟩ : ∃ m, n % 10 = m := ⟨_, rfl⟩
    obtain ⟨q, hq⟩ : ∃ q, n / 10 = q := ⟨_, rfl⟩
    have ml : m < 10 := by omega
    have E := Lib.hid (dd_big h)
    rw [hm, hq] at E
    have T := Lib.hid (tens_at m ml)
    have IH := Lib.hid (fun w => ih q (by omega) w (by omega))
    have LQ := Lib.hid (show (strOfNums (decL (q : Int))).size ≤ 21 by rw [num_size]; exact dec_size (by omega) (by omega))
    have d1 : decide (n < 10) = false := by simp; omega
    have d2 : decide ((n : Int) < 10) = false := by simp; omega
    have mm : (n : Int) % 10 = (m : Int) := by omega
    have md : (n : Int) / 10 = (q : Int) := by omega
    have HM := Lib.hid hm; have HQ := Lib.hid hq
    clear ih hm hq h
    have DS : ∀ w, (Op.stringOp .add (strOfNums (decL (q : Int))) ((⟨#[48, 49, 50, 51, 52, 53, 54, 55, 56, 57]⟩ : ByteArray).extract m (m + 1))).run Tryz.prog w = .ok (.string (strOfNums (decL (n : Int)))) w := fun w => by
      rw [run_string_add_sum (P := Tryz.prog) w _ _ (by have h5 := LQ.out; have h6 : (strOfNums [48 + (m : Int)]).size = 1 := (num_size _); rw [T.out]; omega), T.out, str_app, E.out]
    go_enter Tryz.func31, Tryz.ntmps31
    go_wp2_with fail
    refine region_bw (by kernel_rfl) (by kernel_rfl) ?_
    iterate 2 go_big_quiet_step (fail)
    go_big_quiet_step (exact calls_bw (IH.out _))
    iterate 8 go_big_quiet_step (fail)
    refine wpQuiet_nil ?_
    rintro _ ⟨x, rfl⟩
    go_wp2_with fail
    go_ret
    exact ⟨rfl, x.h⟩
set_option maxRecDepth 100000 in
theorem rdecimal_any : ∀ (n : Nat) (w : World), n ≤ 9223372036854775806 → Calls Tryz.prog 105 #[.int .i64 n] w fun e w' => e = .returned (.string (strOfNums (decL n))) ∧ Below w.heap.size w w' := by
  intro n
  induction n using Nat.strongRecOn with
  | _ n ih =>
  intro w hn
  by_cases h : n < 10
  · have E := Lib.hid (dd_small h)
    have T := Lib.hid (tens_at n h)
    have d1 : decide (n < 10) = true := by simp [h]
    have d2 : decide ((n : Int) < 10) = true := by simp; omega
    clear ih
    go_enter Tryz.func105, Tryz.ntmps105
    go_wp2_with fail
    go_ret
    exact ⟨by rw [E.out, ← T.out]; rfl, Below.refl _ _⟩
  · obtain ⟨m, hm⟩ : ∃ m, n % 10 = m := ⟨_, rfl⟩
    obtain ⟨q, hq⟩ : ∃ q, n / 10 = q := ⟨_, rfl⟩
    have ml : m < 10 := by omega
    have E := Lib.hid (dd_big h)
    rw [hm, hq] at E
    have T := Lib.hid (tens_at m ml)
    have IH := Lib.hid (fun w => ih q (by omega) w (by omega))
    have LQ := Lib.hid (show (strOfNums (decL (q : Int))).size ≤ 21 by rw [num_size]; exact dec_size (by omega) (by omega))
    have d1 : decide (n < 10) = false := by simp; omega
    have d2 : decide ((n : Int) < 10) = false := by simp; omega
    have mm : (n : Int) % 10 = (m : Int) := by omega
    have md : (n : Int) / 10 = (q : Int) := by omega
    have HM := Lib.hid hm; have HQ := Lib.hid hq
    clear ih hm hq h
    have DS : ∀ w, (Op.stringOp .add (strOfNums (decL (q : Int))) ((⟨#[48, 49, 50, 51, 52, 53, 54, 55, 56, 57]⟩ : ByteArray).extract m (m + 1))).run Tryz.prog w = .ok (.string (strOfNums (decL (n : Int)))) w := fun w => by
      rw [run_string_add_sum (P := Tryz.prog) w _ _ (by have h5 := LQ.out; have h6 : (strOfNums [48 + (m : Int)]).size = 1 := (num_size _); rw [T.out]; omega), T.out, str_app, E.out]
    go_enter Tryz.func105, Tryz.ntmps105
    go_wp2_with fail
    refine region_bw (by kernel_rfl) (by kernel_rfl) ?_
    iterate 2 go_big_quiet_step (fail)
    go_big_quiet_step (exact calls_bw (IH.out _))
    iterate 8 go_big_quiet_step (fail)
    refine wpQuiet_nil ?_
    rintro _ ⟨x, rfl⟩
    go_wp2_with fail
    go_ret
    exact ⟨rfl, x.h⟩
set_option maxRecDepth 100000 in
theorem group_any : ∀ (n : Nat) (w : World), n < 65536 → Calls Tryz.prog 32 #[.int .i64 n] w fun e w' => e = .returned (.string (strOfNums (hexG n))) ∧ Below w.heap.size w w' := by
  intro n
  induction n using Nat.strongRecOn with
  | _ n ih =>
  intro w hn
  by_cases h : n < 16
  · have E := Lib.hid (hexG_small h)
    have T := Lib.hid (hexes_at n h)
    have d1 : decide (n < 16) = true := by simp [h]
    have d2 : decide ((n : Int) < 16) = true := by simp; omega
    clear ih
    go_enter Tryz.func32, Tryz.ntmps32
    go_wp2_with fail
    go_ret
    exact ⟨by rw [E.out, ← T.out]; rfl, Below.refl _ _⟩
  · obtain ⟨m, hm⟩ : ∃ m, n % 16 = m := ⟨_, rfl⟩
    obtain ⟨q, hq⟩ : ∃ q, n / 16 = q := ⟨_, rfl⟩
    have ml : m < 16 := by omega
    have E := Lib.hid (hexG_big h)
    rw [hm, hq] at E
    have T := Lib.hid (hexes_at m ml)
    have IH := Lib.hid (fun w => ih q (by omega) w (by omega))
    have LQ := Lib.hid (show (strOfNums (hexG q)).size ≤ 70000 by have h5 := hexG_size q; rw [num_size]; omega)
    have d1 : decide (n < 16) = false := by simp; omega
    have d2 : decide ((n : Int) < 16) = false := by simp; omega
    have mm : (n : Int) % 16 = (m : Int) := by omega
    have md : (n : Int) / 16 = (q : Int) := by omega
    have HM := Lib.hid hm; have HQ := Lib.hid hq
    clear ih hm hq h
    have DS : ∀ w, (Op.stringOp .add (strOfNums (hexG q)) ((⟨#[48, 49, 50, 51, 52, 53, 54, 55, 56, 57, 97, 98, 99, 100, 101, 102]⟩ : ByteArray).extract m (m + 1))).run Tryz.prog w = .ok (.string (strOfNums (hexG n))) w := fun w => by
      rw [run_string_add_sum (P := Tryz.prog) w _ _ (by have h5 := LQ.out; have h6 : (strOfNums [hexD m]).size = 1 := (num_size _); rw [T.out]; omega), T.out, str_app, E.out]
    go_enter Tryz.func32, Tryz.ntmps32
    go_wp2_with fail
    refine region_bw (by kernel_rfl) (by kernel_rfl) ?_
    iterate 2 go_big_quiet_step (fail)
    go_big_quiet_step (exact calls_bw (IH.out _))
    iterate 8 go_big_quiet_step (fail)
    refine wpQuiet_nil ?_
    rintro _ ⟨x, rfl⟩
    go_wp2_with fail
    go_ret
    exact ⟨rfl, x.h⟩
end Go.Proofs.YthfonniieaiocaaGreatDoor
