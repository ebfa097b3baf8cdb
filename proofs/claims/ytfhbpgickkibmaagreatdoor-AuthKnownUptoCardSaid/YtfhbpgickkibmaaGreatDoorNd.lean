/- Contracts of the reference 03's short and Canon, of the reference 04's Is. Contracts of the reference 03's Canon, of the reference 04's Is. -/
import Derived.Test.YtfhbpgickkibmaaGreatDoorNb
import Derived.Test.YtfhbpgickkibmaaGreatDoorCe
namespace Go.Proofs.YtfhbpgickkibmaaGreatDoor
open Go.RowKit

def SHV : List Value := [.string ⟨#[98, 82, 101, 102, 101, 114, 114, 101, 100, 45, 66, 121]⟩, .string ⟨#[99, 67, 111, 110, 116, 101, 110, 116, 45, 84, 121, 112, 101]⟩, .string ⟨#[101, 67, 111, 110, 116, 101, 110, 116, 45, 69, 110, 99, 111, 100, 105, 110, 103]⟩, .string ⟨#[102, 70, 114, 111, 109]⟩, .string ⟨#[105, 67, 97, 108, 108, 45, 73, 68]⟩, .string ⟨#[107, 83, 117, 112, 112, 111, 114, 116, 101, 100]⟩, .string ⟨#[108, 67, 111, 110, 116, 101, 110, 116, 45, 76, 101, 110, 103, 116, 104]⟩, .string ⟨#[109, 67, 111, 110, 116, 97, 99, 116]⟩, .string ⟨#[111, 69, 118, 101, 110, 116]⟩, .string ⟨#[114, 82, 101, 102, 101, 114, 45, 84, 111]⟩, .string ⟨#[115, 83, 117, 98, 106, 101, 99, 116]⟩, .string ⟨#[116, 84, 111]⟩, .string ⟨#[117, 65, 108, 108, 111, 119, 45, 69, 118, 101, 110, 116, 115]⟩, .string ⟨#[118, 86, 105, 97]⟩, .string ⟨#[120, 83, 101, 115, 115, 105, 111, 110, 45, 69, 120, 112, 105, 114, 101, 115]⟩]
theorem short_at {k : Nat} (hk : k < 15) : ∃ s : ByteArray, SHV[k]? = some (.string s) ∧ (∀ w, (Instr.index 9 (.string s) (.int .i64 0)).run Tryz.prog w = .ok (.int .u8 ((LONGS.getD k (0, [])).1)) w) ∧
    (∀ w, (Instr.slice 9 (.string s) (some (.int .i64 1)) none none).run Tryz.prog w = .ok (.string (strOfNums ((LONGS.getD k (0, [])).2))) w) := by
  rcases k with _ | _ | _ | _ | _ | _ | _ | _ | _ | _ | _ | _ | _ | _ | _ | k
  all_goals first | omega | exact ⟨_, rfl, fun _ => by kernel_rfl, fun _ => by kernel_rfl⟩
theorem long_hit {k : Nat} {c : Int} (hk : k < 15) (hn : ∀ j, j < k → (LONGS.getD j (0, [])).1 ≠ c) (h : (LONGS.getD k (0, [])).1 = c) : longL c = (LONGS.getD k (0, [])).2 := by
  unfold longL
  rw [find_hit (l := LONGS) (d := (0, [])) (p := fun q => q.1 == c) hk (fun j hj => by simpa using hn j hj) (by simpa using h)]
  rfl
theorem long_miss {c : Int} (hn : ∀ j, j < 15 → (LONGS.getD j (0, [])).1 ≠ c) : longL c = [] := by
  unfold longL
  rw [find_miss (l := LONGS) (d := (0, [])) (p := fun q => q.1 == c) (fun j hj => by simpa using hn j hj)]
  rfl
set_option maxRecDepth 100000 in
theorem refshort_any (c : Int) (w : World) (h0 : 0 ≤ c) (h1 : c < 256) : Calls Tryz.prog 149 #[.int .u8 c] w fun e w' => e = .returned (.string (strOfNums (longL c))) ∧ Below w.heap.size w w' := by
  have R := Lib.hid (Row.new w 9 SHV)
  have B0 := Lib.hid ((Below.refl w.heap.size w).alloc (Nat.le_refl _) (.cells SHV.toArray 9))
  have HW := Lib.hid (show w.alloc (.cells SHV.toArray 9) = w.alloc (.cells #[.string ⟨#[98, 82, 101, 102, 101, 114, 114, 101, 100, 45, 66, 121]⟩, .string ⟨#[99, 67, 111, 110, 116, 101, 110, 116, 45, 84, 121, 112, 101]⟩, .string ⟨#[101, 67, 111, 110, 116, 101, 110, 116, 45, 69, 110, 99, 111, 100, 105, 110, 103]⟩, .string ⟨#[102, 70, 114, 111, 109]⟩, .string ⟨#[105, 67, 97, 108, 108, 45, 73, 68]⟩, .string ⟨#[107, 83, 117, 112, 112, 111, 114, 116, 101, 100]⟩, .string ⟨#[108, 67, 111, 110, 116, 101, 110, 116, 45, 76, 101, 110, 103, 116, 104]⟩, .string ⟨#[109, 67, 111, 110, 116, 97, 99, 116]⟩, .string ⟨#[111, 69, 118, 101, 110, 116]⟩, .string ⟨#[114, 82, 101, 102, 101, 114, 45, 84, 111]⟩, .string ⟨#[115, 83, 117, 98, 106, 101, 99, 116]⟩, .string ⟨#[116, 84, 111]⟩, .string ⟨#[117, 65, 108, 108, 111, 119, 45, 69, 118, 101, 110, 116, 115]⟩, .string ⟨#[118, 86, 105, 97]⟩, .string ⟨#[120, 83, 101, 115, 115, 105, 111, 110, 45, 69, 120, 112, 105, 114, 101, 115]⟩] 9) from rfl)
  go_enter Tryz.func149, Tryz.ntmps149
  go_wp2_with fail
  rw [← HW.out]
  generalize w.alloc (.cells SHV.toArray 9) = W at *
  go_loop [4] (fun v => ∃ k : Nat, k ≤ 15 ∧ v = .int .i64 k ∧ Hid (∀ j, j < k → (LONGS.getD j (0, [])).1 ≠ c)) (fun v => 15 - (intOf v).toNat)
  case atStart => exact ⟨0, by omega, rfl, Lib.hid fun j hj => absurd hj (by omega)⟩
  case round =>
    obtain ⟨k, hk, rfl, H⟩ := hrel
    by_cases hlt : k < 15
    · have hd : decide ((k : Int) < 15) = true := by simp; omega
      obtain ⟨s, hs, d1, d2⟩ := short_at hlt
      have c1 : W.cell? ⟨w.heap.size, k, none⟩ = some (.string s) := (R.out.cell k).trans hs
      have HIT := Lib.hid (fun (h : (LONGS.getD k (0, [])).1 = c) => long_hit hlt H.out h)
      have NXT := Lib.hid (fun (h : (LONGS.getD k (0, [])).1 ≠ c) (j : Nat) (hj : j < k + 1) => show (LONGS.getD j (0, [])).1 ≠ c by
        rcases (show j < k ∨ j = k by omega) with h1 | rfl
        · exact H.out j h1
        · exact h)
      clear hs
      generalize (LONGS.getD k (0, [])).1 = a at *
      generalize (LONGS.getD k (0, [])).2 = z at *
      by_cases ha : a = c
      · have E := Lib.hid (HIT.out ha)
        have e1 : (a == c) = true := by simp [ha]
        clear ha
        go_wp2_with fail
        go_ret
        exact ⟨by rw [E.out]; rfl, B0.out⟩
      · have E := Lib.hid (NXT.out ha)
        have e1 : (a == c) = false := by simp [ha]
        clear ha
        go_wp2_with fail
        go_round
        case rel => exact ⟨k + 1, by omega, by go_num, E⟩
        case measure => simp [intOf]; omega
    · obtain rfl : k = 15 := by omega
      have E := Lib.hid (long_miss H.out)
      rw [show ((15 : Nat) : Int) = (15 : Int) from rfl]
      go_wp2_with fail
      go_ret
      exact ⟨by rw [E.out]; rfl, B0.out⟩
/-- The letters so far, the others in lower case. -/
def rcapK (xs : List Int) (k : Nat) : List Int := capL (xs.take k) ++ lowS (xs.drop k)
theorem rcapK_len (xs : List Int) (k : Nat) : (rcapK xs k).length = xs.length := by
  unfold rcapK; rw [List.length_append, capL_len, lowS_len, List.length_take, List.length_drop]; omega
theorem rcapK_all {xs : List Int} {k : Nat} (h : xs.length ≤ k) : rcapK xs k = capL xs := by
  unfold rcapK; rw [List.take_of_length_le h, List.drop_of_length_le h]; simp [lowS]
theorem rcapK_at {xs : List Int} {k : Nat} (h : k < xs.length) : (rcapK xs k)[k]? = some (lowC (xs.getD k 0)) := by
  unfold rcapK
  rw [List.getElem?_append_right (by rw [capL_len, List.length_take]; omega), capL_len, List.length_take, show k - min k xs.length = 0 by omega, drop_consI xs h]
  rfl
theorem rcapK_set {xs : List Int} {k : Nat} (h : k < xs.length) : (rcapK xs k).set k (capC (capF (xs.take k)).2 (xs.getD k 0)) = rcapK xs (k + 1) := by
  unfold rcapK
  rw [List.set_append_right _ _ (by rw [capL_len, List.length_take]; omega), capL_len, List.length_take, show k - min k xs.length = 0 by omega, drop_consI xs h]
  rw [show lowS (xs.getD k 0 :: xs.drop (k + 1)) = lowC (xs.getD k 0) :: lowS (xs.drop (k + 1)) from rfl, List.set_cons_zero, take_snocI xs h]
  unfold capL
  rw [capF_snoc]
  simp [capStep]
theorem rcapK_same {xs : List Int} {k : Nat} (h : k < xs.length) (hc : capC (capF (xs.take k)).2 (xs.getD k 0) = lowC (xs.getD k 0)) : rcapK xs k = rcapK xs (k + 1) := by
  rw [← rcapK_set h, hc]
  obtain ⟨h2, h3⟩ := List.getElem?_eq_some_iff.1 (rcapK_at h)
  rw [← h3]
  exact (List.set_getElem_self h2).symm
theorem rcapK_prev {xs : List Int} {k : Nat} (h : k < xs.length) (h0 : 0 < k) : ∃ p, (rcapK xs k)[k - 1]? = some p ∧ (capF (xs.take k)).2 = (p == 45) := by
  refine ⟨(capL (xs.take k)).getD (k - 1) 0, ?_, ?_⟩
  · unfold rcapK
    rw [List.getElem?_append_left (by rw [capL_len, List.length_take]; omega)]
    exact getD_some (by rw [capL_len, List.length_take]; omega)
  · rw [capF_begins, List.length_take, Nat.min_eq_left (by omega)]
    have : decide (xs.take k = []) = false := by
      rw [decide_eq_false_iff_not]
      intro e
      have := congrArg List.length e
      rw [List.length_take, List.length_nil] at this
      omega
    rw [this, Bool.false_or]
theorem capC_up {b : Bool} {x : Int} (hb : b = true) (h : 97 ≤ lowC x ∧ lowC x ≤ 122) : capC b x = lowC x - 32 := by
  subst hb
  unfold capC upC lowC at *
  rw [if_pos rfl]
  split at h
  · rw [if_neg (by omega), if_pos ‹_›]; omega
  · rw [if_pos h, if_neg ‹_›]
theorem capC_low {b : Bool} {x : Int} (h : b = false ∨ ¬ (97 ≤ lowC x ∧ lowC x ≤ 122)) : capC b x = lowC x := by
  unfold capC
  split
  · rename_i hb
    rcases h with h | h
    · rw [hb] at h; cases h
    · unfold upC lowC at *
      split at h
      · omega
      · rw [if_neg h, if_neg ‹_›]
  · rfl
structure RPX (w : World) (B : Nat) (xs : List Int) (k : Nat) (wr : World) : Prop where
  r : BR wr B (rcapK xs k)
  b : Below w.heap.size w wr
def RPR (w : World) (B : Nat) (xs : List Int) (v : Value) (wr : World) : Prop := ∃ k : Nat, k ≤ xs.length ∧ v = .int .i64 k ∧ Hid (RPX w B xs k wr)
end Go.Proofs.YtfhbpgickkibmaaGreatDoor
namespace Go.Proofs.YtfhbpgickkibmaaGreatDoor
open Go.RowKit

theorem lowS_head {X : List Int} (h : 0 < X.length) : (lowS X).getD 0 0 = lowC (X.getD 0 0) := by
  cases X with
  | nil => simp at h
  | cons x r => rfl
set_option maxRecDepth 100000 in
set_option maxHeartbeats 2000000 in
theorem refcanon_any (s : ByteArray) (w : World) (hM : s.size ≤ 4000000) :
    Calls Tryz.prog 125 #[.string s] w fun e w' => e = .returned (canonV (canonL (byteL s))) ∧ Below w.heap.size w w' := by
  have XB := Lib.hid (byteL_by s)
  have HL := Lib.hid (byteL_len s)
  have CN := Lib.hid (fun (h : isToken (byteL s) = false ∨ 64 < s.size) => show canonL (byteL s) = none by
    unfold canonL
    rw [if_neg]
    rintro ⟨h1, h2⟩
    rw [byteL_len] at h2
    rcases h with h | h
    · rw [h] at h1; cases h1
    · omega)
  have CY := Lib.hid (fun (h : isToken (byteL s) = true) (h2 : s.size ≤ 64) => show canonL (byteL s) = some (canonT (byteL s)) by
    unfold canonL
    rw [if_pos ⟨h, by rw [byteL_len]; exact h2⟩])
  have CT := Lib.hid (show canonT (byteL s) = if (byteL s).length = 1 ∧ longL (lowC ((byteL s).getD 0 0)) ≠ [] then longL (lowC ((byteL s).getD 0 0)) else (SPECIALS.find? (fun q => lowS q == lowS (byteL s))).getD (capL (byteL s)) from rfl)
  have EL := Lib.hid (fun (w : World) => reflower_any s w hM)
  go_enter Tryz.func125, Tryz.ntmps125
  go_wp2_with fail
  refine (reftoken_any s _ (by omega)).mono ?_
  rintro e w1 ⟨rfl, hb1⟩
  have B1 := Lib.hid hb1
  clear hb1
  cases ht : isToken (byteL s) with
  | false =>
    have E := Lib.hid (canonV_none (CN.out (.inl ht)))
    clear ht
    go_wp2_with fail
    go_ret2
    exact ⟨by rw [E.out]; rfl, B1.out⟩
  | true =>
    by_cases h64 : 64 < s.size
    · have E := Lib.hid (canonV_none (CN.out (.inr h64)))
      have d1 : decide ((64 : Int) < (s.size : Int)) = true := by simp; omega
      clear ht h64
      go_wp2_with fail
      go_ret2
      exact ⟨by rw [E.out]; rfl, B1.out⟩
    · have d1 : decide ((64 : Int) < (s.size : Int)) = false := by simp; omega
      have E := Lib.hid (canonV_some (CY.out ht (by omega)))
      have s64 : s.size ≤ 64 := by omega
      clear ht h64 CN CY
      generalize hX : byteL s = X at *
      have HX := Lib.hid hX
      clear hX
      have REST0 := Lib.hid (fun (h : ¬ (X.length = 1 ∧ longL (lowC (X.getD 0 0)) ≠ [])) => show canonT X = (SPECIALS.find? (fun q => lowS q == lowS X)).getD (capL X) by rw [CT.out, if_neg h])
      have LET := Lib.hid (fun (h : X.length = 1 ∧ longL (lowC (X.getD 0 0)) ≠ []) => show canonT X = longL (lowC (X.getD 0 0)) by rw [CT.out, if_pos h])
      clear CT
      go_wp2_with fail
      refine (EL.out _).mono ?_
      rintro e w2 ⟨rfl, hb2⟩
      have B2 := Lib.hid (bthen B1.out hb2)
      clear hb2 B1
      by_cases h1 : s.size = 1
      · have e1 : ((s.size : Int) == 1) = true := by simp [h1]
        have dx : ∀ w, (Instr.index 9 (.string (strOfNums (lowS X))) (.int .i64 0)).run Tryz.prog w = .ok (.int .u8 (lowC (X.getD 0 0))) w := fun w => by
          rw [idx_str (strOfNums (lowS X)) (i := 0) (by rw [num_size, lowS_len, HL.out]; omega) (z := 0) rfl w, byteL_str (lowS_by XB.out), lowS_head (by rw [HL.out]; omega)]
        have hx := XB.out _ (getD_mem (l := X) (i := 0) (by rw [HL.out]; omega))
        have L1 := Lib.hid (show X.length = 1 by rw [HL.out]; exact h1)
        have LB := Lib.hid (lowC_by hx)
        clear h1 hx
        generalize lowC (X.getD 0 0) = y at *
        go_wp2_with fail
        refine (refshort_any y _ LB.out.1 LB.out.2).mono ?_
        rintro e w3 ⟨rfl, hb3⟩
        have B3 := Lib.hid (bthen B2.out hb3)
        clear hb3 B2
        have LY := Lib.hid (longL_by y)
        by_cases hy : longL y = []
        · have REST := Lib.hid (REST0.out (fun h => h.2 hy))
          rw [hy, show strOfNums [] = ⟨#[]⟩ from rfl]
          clear hy dx
          clear EL
          have R := Lib.hid (Row.new w3 9 SPV)
          have B0 := Lib.hid (bthen B3.out ((Below.refl w3.heap.size w3).alloc (Nat.le_refl _) (.cells SPV.toArray 9)))
          have HW := Lib.hid (show w3.alloc (.cells SPV.toArray 9) = w3.alloc (.cells #[.string ⟨#[67, 97, 108, 108, 45, 73, 68]⟩, .string ⟨#[67, 83, 101, 113]⟩, .string ⟨#[77, 73, 77, 69, 45, 86, 101, 114, 115, 105, 111, 110]⟩, .string ⟨#[77, 105, 110, 45, 83, 69]⟩, .string ⟨#[82, 65, 99, 107]⟩, .string ⟨#[82, 83, 101, 113]⟩, .string ⟨#[87, 87, 87, 45, 65, 117, 116, 104, 101, 110, 116, 105, 99, 97, 116, 101]⟩] 9) from rfl)
          go_wp2_with fail
          rw [← HW.out]
          obtain ⟨G, hG⟩ : ∃ G, G = w3.heap.size := ⟨_, rfl⟩
          rw [← hG] at R ⊢
          clear hG HW
          generalize w3.alloc (.cells SPV.toArray 9) = W at *
          go_loopw [6] (fun v wr => ∃ k : Nat, k ≤ 7 ∧ v = .int .i64 k ∧ Hid (Below w.heap.size w wr ∧ ∀ j, j < k → (lowS (SPECIALS.getD j []) == lowS X) = false) ∧ Hid (Below W.heap.size W wr)) (fun v _ => 7 - (intOf v).toNat)
          case atStart => exact ⟨0, by omega, rfl, Lib.hid ⟨B0.out, fun j hj => absurd hj (by omega)⟩, Lib.hid (Below.refl _ _)⟩
          case round =>
            obtain ⟨k, hk, rfl, H, BK⟩ := hrel
            by_cases hlt : k < 7
            · have hd : decide ((k : Int) < 7) = true := by simp; omega
              have c1 : wr.cell? ⟨G, k, none⟩ = some (.string (strOfNums (SPECIALS.getD k []))) := by
                rw [(R.out.below BK.out).cell k]
                unfold SPV
                rw [List.getElem?_map, List.getD_eq_getElem?_getD, List.getElem?_eq_getElem (show k < SPECIALS.length from hlt)]
                rfl
              obtain ⟨sb1, sb2⟩ := sp_by hlt
              have SB := Lib.hid sb1
              have SM := Lib.hid (show (strOfNums (SPECIALS.getD k [])).size ≤ 4000000 by rw [num_size]; omega)
              have HIT := Lib.hid (fun (h : (lowS (SPECIALS.getD k []) == lowS X) = true) => show canonT X = SPECIALS.getD k [] by
                rw [REST.out, find_hit (d := []) (show k < SPECIALS.length from hlt) H.out.2 h]; rfl)
              have NXT := Lib.hid (fun (h : (lowS (SPECIALS.getD k []) == lowS X) = false) (j : Nat) (hj : j < k + 1) => show (lowS (SPECIALS.getD j []) == lowS X) = false by
                rcases (show j < k ∨ j = k by omega) with h1 | rfl
                · exact H.out.2 j h1
                · exact h)
              have QE := Lib.hid (toList_beq (lowS_by sb1) (lowS_by XB.out))
              clear sb1 sb2
              generalize SPECIALS.getD k [] = q at *
              go_wp2_with fail
              refine (reflower_any _ _ SM.out).mono ?_
              rintro e w3 ⟨rfl, hb3⟩
              have B3 := Lib.hid (bthen H.out.1 hb3)
              have BK3 := Lib.hid (bthen BK.out hb3)
              have c3 : w3.cell? ⟨G, k, none⟩ = some (.string (strOfNums q)) := (hb3.cell (p := ⟨G, k, none⟩) (block_lt_of_cell c1)).trans c1
              clear hb3 c1
              rw [byteL_str SB.out]
              cases hc : (lowS q == lowS X) with
              | true =>
                have hq := QE.out.trans hc
                have E2 := Lib.hid (HIT.out hc)
                clear hc
                go_wp2_with fail
                go_ret2
                exact ⟨by rw [HX.out, E.out, E2.out]; rfl, B3.out⟩
              | false =>
                have hq := QE.out.trans hc
                have N2 := Lib.hid (NXT.out hc)
                clear hc
                go_wp2_with fail
                go_roundw
                case rel => exact ⟨k + 1, by omega, by go_num, Lib.hid ⟨B3.out, N2.out⟩, BK3⟩
                case measure => simp [intOf]; omega
            · obtain rfl : k = 7 := by omega
              have DT : canonT X = capL X := by rw [REST.out, find_miss (l := SPECIALS) (d := []) (fun j hj => H.out.2 j hj)]; rfl
              have E2 := Lib.hid DT
              clear DT
              rw [show ((7 : Nat) : Int) = (7 : Int) from rfl]
              have BW := Lib.hid H.out.1
              clear H
              go_wp2_with (with_reducible refine wpList_bytesW rfl _ rfl (strOfNums (lowS X)) rfl ?_)
              intro cap w5 hcap R5 B5
              have hcap2 : X.length ≤ cap := by rw [num_size, lowS_len] at hcap; exact hcap
              have NS := Lib.hid (show (strOfNums (lowS X)).size = X.length by rw [num_size, lowS_len])
              have P0 := Lib.hid (show RPX w wr.heap.size X 0 w5 from ⟨by
                have h := R5.out
                rw [byteL_str (lowS_by XB.out)] at h
                exact h, bthen BW.out B5.out⟩)
              rw [NS.out]
              obtain ⟨B, hB⟩ : ∃ B, B = wr.heap.size := ⟨_, rfl⟩
              have SB := Lib.hid (show w.heap.size ≤ B by rw [hB]; exact BW.out.size)
              rw [← hB] at P0 ⊢
              clear R5 B5 hcap hB BW NS
              obtain ⟨n, hn⟩ : ∃ n, n = X.length := ⟨_, rfl⟩
              have HN := Lib.hid hn
              rw [← hn] at hcap2 ⊢
              have n0 : n ≤ 64 := by rw [hn, HL.out]; omega
              clear hn
              go_wp2_with fail
              go_loopw [8] (fun v wr => RPR w B X v wr) (fun v _ => n - (intOf v).toNat)
              case atStart => exact ⟨0, Nat.zero_le _, rfl, P0⟩
              case round =>
                clear P0
                obtain ⟨k, hk, rfl, H⟩ := hrel
                rw [← HN.out] at hk
                by_cases hlt : k < n
                · have hlt' : k < X.length := by rw [← HN.out]; exact hlt
                  have hd : decide (k < n) = true := by simp; omega
                  have hd2 : decide ((k : Int) < (n : Int)) = true := by simp; omega
                  have ck := H.out.r.c k _ (rcapK_at hlt')
                  have fk := H.out.r.f k (by rw [rcapK_len]; exact hlt')
                  have ST := Lib.hid (fun (h : (capF (X.take k)).2 = true) (h2 : 97 ≤ lowC (X.getD k 0) ∧ lowC (X.getD k 0) ≤ 122) => show RPX w B X (k + 1) (wr.setCell ⟨B, k, none⟩ (.int .u8 (lowC (X.getD k 0) - 32))) from ⟨by
                    rw [← rcapK_set hlt', capC_up h h2]
                    exact H.out.r.set (by rw [rcapK_len]; exact hlt') _, H.out.b.setCell SB.out _⟩)
                  have SA := Lib.hid (fun (h : (capF (X.take k)).2 = false ∨ ¬ (97 ≤ lowC (X.getD k 0) ∧ lowC (X.getD k 0) ≤ 122)) => show RPX w B X (k + 1) wr from ⟨by
                    rw [← rcapK_same hlt' (capC_low h)]
                    exact H.out.r, H.out.b⟩)
                  have PV := Lib.hid (fun (h0 : 0 < k) => show ∃ p, wr.cell? ⟨B, k - 1, none⟩ = some (.int .u8 p) ∧ (capF (X.take k)).2 = (p == 45) by
                    obtain ⟨p, h1, h2⟩ := rcapK_prev hlt' h0
                    exact ⟨p, H.out.r.c _ _ h1, h2⟩)
                  have Z := Lib.hid (fun (h0 : k = 0) => show (capF (X.take k)).2 = true by rw [h0]; rfl)
                  have LB := lowC_by (XB.out _ (getD_mem hlt'))
                  clear hlt'
                  generalize lowC (X.getD k 0) = y at *
                  generalize (capF (X.take k)).2 = b at *
                  have y0 := LB.1
                  have y1 := LB.2
                  clear LB
                  by_cases hk0 : k = 0
                  · have b1 := Z.out hk0
                    have e0 : ((k : Int) == 0) = true := by simp [hk0]
                    have e00 : (k == 0) = true := by simp [hk0]
                    clear hk0 PV Z
                    rcases (show y < 97 ∨ (97 ≤ y ∧ y ≤ 122) ∨ 122 < y by omega) with hy | ⟨hy, hz⟩ | hy
                    · have d1 : decide (97 ≤ y) = false := by simp; omega
                      have N := Lib.hid (SA.out (.inr (by omega)))
                      go_wp2_with fail
                      go_roundw
                      case rel => exact ⟨k + 1, by rw [← HN.out]; omega, by go_num, N⟩
                      case measure => simp [intOf]; omega
                    · have d1 : decide (97 ≤ y) = true := by simp; omega
                      have d2 : decide (y ≤ 122) = true := by simp; omega
                      have N := Lib.hid (ST.out b1 ⟨hy, hz⟩)
                      clear b1
                      go_wp2_with fail
                      go_roundw
                      case rel => exact ⟨k + 1, by rw [← HN.out]; omega, by go_num, N⟩
                      case measure => simp [intOf]; omega
                    · have d1 : decide (97 ≤ y) = true := by simp; omega
                      have d2 : decide (y ≤ 122) = false := by simp; omega
                      have N := Lib.hid (SA.out (.inr (by omega)))
                      go_wp2_with fail
                      go_roundw
                      case rel => exact ⟨k + 1, by rw [← HN.out]; omega, by go_num, N⟩
                      case measure => simp [intOf]; omega
                  · have e0 : ((k : Int) == 0) = false := by rw [beq_eq_false_iff_ne]; omega
                    have e00 : (k == 0) = false := by simp [hk0]
                    obtain ⟨p, cp, hb⟩ := PV.out (by omega)
                    have i0 : (0 : Int) ≤ (k : Int) - 1 := by omega
                    have i00 : (1 : Int) ≤ (k : Int) := by omega
                    have i1 : (k : Int) - 1 < (n : Int) := by omega
                    have i2 : ((k : Int) - 1).toNat = k - 1 := by omega
                    clear hk0 PV Z
                    cases hp : (p == 45) with
                    | false =>
                      have N := Lib.hid (SA.out (.inl (hb.trans hp)))
                      clear hb
                      go_wp2_with fail
                      go_roundw
                      case rel => exact ⟨k + 1, by rw [← HN.out]; omega, by go_num, N⟩
                      case measure => simp [intOf]; omega
                    | true =>
                      have b1 := hb.trans hp
                      clear hb
                      rcases (show y < 97 ∨ (97 ≤ y ∧ y ≤ 122) ∨ 122 < y by omega) with hy | ⟨hy, hz⟩ | hy
                      · have d1 : decide (97 ≤ y) = false := by simp; omega
                        have N := Lib.hid (SA.out (.inr (by omega)))
                        clear b1
                        go_wp2_with fail
                        go_roundw
                        case rel => exact ⟨k + 1, by rw [← HN.out]; omega, by go_num, N⟩
                        case measure => simp [intOf]; omega
                      · have d1 : decide (97 ≤ y) = true := by simp; omega
                        have d2 : decide (y ≤ 122) = true := by simp; omega
                        have N := Lib.hid (ST.out b1 ⟨hy, hz⟩)
                        clear b1
                        go_wp2_with fail
                        go_roundw
                        case rel => exact ⟨k + 1, by rw [← HN.out]; omega, by go_num, N⟩
                        case measure => simp [intOf]; omega
                      · have d1 : decide (97 ≤ y) = true := by simp; omega
                        have d2 : decide (y ≤ 122) = false := by simp; omega
                        have N := Lib.hid (SA.out (.inr (by omega)))
                        clear b1
                        go_wp2_with fail
                        go_roundw
                        case rel => exact ⟨k + 1, by rw [← HN.out]; omega, by go_num, N⟩
                        case measure => simp [intOf]; omega
                · obtain rfl : k = n := by omega
                  have HR := H.out.r
                  rw [rcapK_all (by rw [← HN.out]; exact Nat.le_refl _)] at HR
                  have cv := HR.conv k cap (by rw [capL_len]; exact HN.out.symm)
                  have BE := Lib.hid H.out.b
                  clear HR H
                  go_wp2_with fail
                  go_ret2
                  exact ⟨by rw [HX.out, E.out, E2.out]; rfl, BE.out⟩
        · have E2 := Lib.hid (LET.out ⟨L1.out, hy⟩)
          have ob : ((strOfNums (longL y)).toList == ([] : List UInt8)) = false := by
            rw [Bool.eq_false_iff]; intro h; apply hy
            have h2 : strOfNums (longL y) = ⟨#[]⟩ := toList_inj.1 ((by simpa using h : (strOfNums (longL y)).toList = []).trans (by rw [ByteArray.toList_eq]))
            have h3 := congrArg byteL h2
            rw [byteL_str LY.out] at h3
            exact h3
          clear hy
          have EY := Lib.hid (fun w => refshort_any y w LB.out.1 LB.out.2)
          generalize longL y = z at *
          go_wp2_with fail
          refine (EY.out _).mono ?_
          rintro e w4 ⟨rfl, hb4⟩
          have B4 := Lib.hid (bthen B3.out hb4)
          clear hb4
          go_wp2_with fail
          go_ret2
          exact ⟨by rw [HX.out, E.out, E2.out]; rfl, B4.out⟩
      · have e1 : ((s.size : Int) == 1) = false := by rw [beq_eq_false_iff_ne]; omega
        have REST := Lib.hid (REST0.out (fun h => h1 (by rw [← HL.out]; exact h.1)))
        clear h1
        clear EL
        have R := Lib.hid (Row.new w2 9 SPV)
        have B0 := Lib.hid (bthen B2.out ((Below.refl w2.heap.size w2).alloc (Nat.le_refl _) (.cells SPV.toArray 9)))
        have HW := Lib.hid (show w2.alloc (.cells SPV.toArray 9) = w2.alloc (.cells #[.string ⟨#[67, 97, 108, 108, 45, 73, 68]⟩, .string ⟨#[67, 83, 101, 113]⟩, .string ⟨#[77, 73, 77, 69, 45, 86, 101, 114, 115, 105, 111, 110]⟩, .string ⟨#[77, 105, 110, 45, 83, 69]⟩, .string ⟨#[82, 65, 99, 107]⟩, .string ⟨#[82, 83, 101, 113]⟩, .string ⟨#[87, 87, 87, 45, 65, 117, 116, 104, 101, 110, 116, 105, 99, 97, 116, 101]⟩] 9) from rfl)
        go_wp2_with fail
        rw [← HW.out]
        obtain ⟨G, hG⟩ : ∃ G, G = w2.heap.size := ⟨_, rfl⟩
        rw [← hG] at R ⊢
        clear hG HW
        generalize w2.alloc (.cells SPV.toArray 9) = W at *
        go_loopw [6] (fun v wr => ∃ k : Nat, k ≤ 7 ∧ v = .int .i64 k ∧ Hid (Below w.heap.size w wr ∧ ∀ j, j < k → (lowS (SPECIALS.getD j []) == lowS X) = false) ∧ Hid (Below W.heap.size W wr)) (fun v _ => 7 - (intOf v).toNat)
        case atStart => exact ⟨0, by omega, rfl, Lib.hid ⟨B0.out, fun j hj => absurd hj (by omega)⟩, Lib.hid (Below.refl _ _)⟩
        case round =>
          obtain ⟨k, hk, rfl, H, BK⟩ := hrel
          by_cases hlt : k < 7
          · have hd : decide ((k : Int) < 7) = true := by simp; omega
            have c1 : wr.cell? ⟨G, k, none⟩ = some (.string (strOfNums (SPECIALS.getD k []))) := by
              rw [(R.out.below BK.out).cell k]
              unfold SPV
              rw [List.getElem?_map, List.getD_eq_getElem?_getD, List.getElem?_eq_getElem (show k < SPECIALS.length from hlt)]
              rfl
            obtain ⟨sb1, sb2⟩ := sp_by hlt
            have SB := Lib.hid sb1
            have SM := Lib.hid (show (strOfNums (SPECIALS.getD k [])).size ≤ 4000000 by rw [num_size]; omega)
            have HIT := Lib.hid (fun (h : (lowS (SPECIALS.getD k []) == lowS X) = true) => show canonT X = SPECIALS.getD k [] by
              rw [REST.out, find_hit (d := []) (show k < SPECIALS.length from hlt) H.out.2 h]; rfl)
            have NXT := Lib.hid (fun (h : (lowS (SPECIALS.getD k []) == lowS X) = false) (j : Nat) (hj : j < k + 1) => show (lowS (SPECIALS.getD j []) == lowS X) = false by
              rcases (show j < k ∨ j = k by omega) with h1 | rfl
              · exact H.out.2 j h1
              · exact h)
            have QE := Lib.hid (toList_beq (lowS_by sb1) (lowS_by XB.out))
            clear sb1 sb2
            generalize SPECIALS.getD k [] = q at *
            go_wp2_with fail
            refine (reflower_any _ _ SM.out).mono ?_
            rintro e w3 ⟨rfl, hb3⟩
            have B3 := Lib.hid (bthen H.out.1 hb3)
            have BK3 := Lib.hid (bthen BK.out hb3)
            have c3 : w3.cell? ⟨G, k, none⟩ = some (.string (strOfNums q)) := (hb3.cell (p := ⟨G, k, none⟩) (block_lt_of_cell c1)).trans c1
            clear hb3 c1
            rw [byteL_str SB.out]
            cases hc : (lowS q == lowS X) with
            | true =>
              have hq := QE.out.trans hc
              have E2 := Lib.hid (HIT.out hc)
              clear hc
              go_wp2_with fail
              go_ret2
              exact ⟨by rw [HX.out, E.out, E2.out]; rfl, B3.out⟩
            | false =>
              have hq := QE.out.trans hc
              have N2 := Lib.hid (NXT.out hc)
              clear hc
              go_wp2_with fail
              go_roundw
              case rel => exact ⟨k + 1, by omega, by go_num, Lib.hid ⟨B3.out, N2.out⟩, BK3⟩
              case measure => simp [intOf]; omega
          · obtain rfl : k = 7 := by omega
            have DT : canonT X = capL X := by rw [REST.out, find_miss (l := SPECIALS) (d := []) (fun j hj => H.out.2 j hj)]; rfl
            have E2 := Lib.hid DT
            clear DT
            rw [show ((7 : Nat) : Int) = (7 : Int) from rfl]
            have BW := Lib.hid H.out.1
            clear H
            go_wp2_with (with_reducible refine wpList_bytesW rfl _ rfl (strOfNums (lowS X)) rfl ?_)
            intro cap w5 hcap R5 B5
            have hcap2 : X.length ≤ cap := by rw [num_size, lowS_len] at hcap; exact hcap
            have NS := Lib.hid (show (strOfNums (lowS X)).size = X.length by rw [num_size, lowS_len])
            have P0 := Lib.hid (show RPX w wr.heap.size X 0 w5 from ⟨by
              have h := R5.out
              rw [byteL_str (lowS_by XB.out)] at h
              exact h, bthen BW.out B5.out⟩)
            rw [NS.out]
            obtain ⟨B, hB⟩ : ∃ B, B = wr.heap.size := ⟨_, rfl⟩
            have SB := Lib.hid (show w.heap.size ≤ B by rw [hB]; exact BW.out.size)
            rw [← hB] at P0 ⊢
            clear R5 B5 hcap hB BW NS
            obtain ⟨n, hn⟩ : ∃ n, n = X.length := ⟨_, rfl⟩
            have HN := Lib.hid hn
            rw [← hn] at hcap2 ⊢
            have n0 : n ≤ 64 := by rw [hn, HL.out]; omega
            clear hn
            go_wp2_with fail
            go_loopw [8] (fun v wr => RPR w B X v wr) (fun v _ => n - (intOf v).toNat)
            case atStart => exact ⟨0, Nat.zero_le _, rfl, P0⟩
            case round =>
              clear P0
              obtain ⟨k, hk, rfl, H⟩ := hrel
              rw [← HN.out] at hk
              by_cases hlt : k < n
              · have hlt' : k < X.length := by rw [← HN.out]; exact hlt
                have hd : decide (k < n) = true := by simp; omega
                have hd2 : decide ((k : Int) < (n : Int)) = true := by simp; omega
                have ck := H.out.r.c k _ (rcapK_at hlt')
                have fk := H.out.r.f k (by rw [rcapK_len]; exact hlt')
                have ST := Lib.hid (fun (h : (capF (X.take k)).2 = true) (h2 : 97 ≤ lowC (X.getD k 0) ∧ lowC (X.getD k 0) ≤ 122) => show RPX w B X (k + 1) (wr.setCell ⟨B, k, none⟩ (.int .u8 (lowC (X.getD k 0) - 32))) from ⟨by
                  rw [← rcapK_set hlt', capC_up h h2]
                  exact H.out.r.set (by rw [rcapK_len]; exact hlt') _, H.out.b.setCell SB.out _⟩)
                have SA := Lib.hid (fun (h : (capF (X.take k)).2 = false ∨ ¬ (97 ≤ lowC (X.getD k 0) ∧ lowC (X.getD k 0) ≤ 122)) => show RPX w B X (k + 1) wr from ⟨by
                  rw [← rcapK_same hlt' (capC_low h)]
                  exact H.out.r, H.out.b⟩)
                have PV := Lib.hid (fun (h0 : 0 < k) => show ∃ p, wr.cell? ⟨B, k - 1, none⟩ = some (.int .u8 p) ∧ (capF (X.take k)).2 = (p == 45) by
                  obtain ⟨p, h1, h2⟩ := rcapK_prev hlt' h0
                  exact ⟨p, H.out.r.c _ _ h1, h2⟩)
                have Z := Lib.hid (fun (h0 : k = 0) => show (capF (X.take k)).2 = true by rw [h0]; rfl)
                have LB := lowC_by (XB.out _ (getD_mem hlt'))
                clear hlt'
                generalize lowC (X.getD k 0) = y at *
                generalize (capF (X.take k)).2 = b at *
                have y0 := LB.1
                have y1 := LB.2
                clear LB
                by_cases hk0 : k = 0
                · have b1 := Z.out hk0
                  have e0 : ((k : Int) == 0) = true := by simp [hk0]
                  have e00 : (k == 0) = true := by simp [hk0]
                  clear hk0 PV Z
                  rcases (show y < 97 ∨ (97 ≤ y ∧ y ≤ 122) ∨ 122 < y by omega) with hy | ⟨hy, hz⟩ | hy
                  · have d1 : decide (97 ≤ y) = false := by simp; omega
                    have N := Lib.hid (SA.out (.inr (by omega)))
                    go_wp2_with fail
                    go_roundw
                    case rel => exact ⟨k + 1, by rw [← HN.out]; omega, by go_num, N⟩
                    case measure => simp [intOf]; omega
                  · have d1 : decide (97 ≤ y) = true := by simp; omega
                    have d2 : decide (y ≤ 122) = true := by simp; omega
                    have N := Lib.hid (ST.out b1 ⟨hy, hz⟩)
                    clear b1
                    go_wp2_with fail
                    go_roundw
                    case rel => exact ⟨k + 1, by rw [← HN.out]; omega, by go_num, N⟩
                    case measure => simp [intOf]; omega
                  · have d1 : decide (97 ≤ y) = true := by simp; omega
                    have d2 : decide (y ≤ 122) = false := by simp; omega
                    have N := Lib.hid (SA.out (.inr (by omega)))
                    go_wp2_with fail
                    go_roundw
                    case rel => exact ⟨k + 1, by rw [← HN.out]; omega, by go_num, N⟩
                    case measure => simp [intOf]; omega
                · have e0 : ((k : Int) == 0) = false := by rw [beq_eq_false_iff_ne]; omega
                  have e00 : (k == 0) = false := by simp [hk0]
                  obtain ⟨p, cp, hb⟩ := PV.out (by omega)
                  have i0 : (0 : Int) ≤ (k : Int) - 1 := by omega
                  have i00 : (1 : Int) ≤ (k : Int) := by omega
                  have i1 : (k : Int) - 1 < (n : Int) := by omega
                  have i2 : ((k : Int) - 1).toNat = k - 1 := by omega
                  clear hk0 PV Z
                  cases hp : (p == 45) with
                  | false =>
                    have N := Lib.hid (SA.out (.inl (hb.trans hp)))
                    clear hb
                    go_wp2_with fail
                    go_roundw
                    case rel => exact ⟨k + 1, by rw [← HN.out]; omega, by go_num, N⟩
                    case measure => simp [intOf]; omega
                  | true =>
                    have b1 := hb.trans hp
                    clear hb
                    rcases (show y < 97 ∨ (97 ≤ y ∧ y ≤ 122) ∨ 122 < y by omega) with hy | ⟨hy, hz⟩ | hy
                    · have d1 : decide (97 ≤ y) = false := by simp; omega
                      have N := Lib.hid (SA.out (.inr (by omega)))
                      clear b1
                      go_wp2_with fail
                      go_roundw
                      case rel => exact ⟨k + 1, by rw [← HN.out]; omega, by go_num, N⟩
                      case measure => simp [intOf]; omega
                    · have d1 : decide (97 ≤ y) = true := by simp; omega
                      have d2 : decide (y ≤ 122) = true := by simp; omega
                      have N := Lib.hid (ST.out b1 ⟨hy, hz⟩)
                      clear b1
                      go_wp2_with fail
                      go_roundw
                      case rel => exact ⟨k + 1, by rw [← HN.out]; omega, by go_num, N⟩
                      case measure => simp [intOf]; omega
                    · have d1 : decide (97 ≤ y) = true := by simp; omega
                      have d2 : decide (y ≤ 122) = false := by simp; omega
                      have N := Lib.hid (SA.out (.inr (by omega)))
                      clear b1
                      go_wp2_with fail
                      go_roundw
                      case rel => exact ⟨k + 1, by rw [← HN.out]; omega, by go_num, N⟩
                      case measure => simp [intOf]; omega
              · obtain rfl : k = n := by omega
                have HR := H.out.r
                rw [rcapK_all (by rw [← HN.out]; exact Nat.le_refl _)] at HR
                have cv := HR.conv k cap (by rw [capL_len]; exact HN.out.symm)
                have BE := Lib.hid H.out.b
                clear HR H
                go_wp2_with fail
                go_ret2
                exact ⟨by rw [HX.out, E.out, E2.out]; rfl, BE.out⟩
/-- Two names are equal. -/
def isL (a b : List Int) : Bool := match canonL a, canonL b with
  | some x, some y => x == y
  | _, _ => false
theorem isL_none1 {a b : List Int} (h : canonL a = none) : isL a b = false := by unfold isL; rw [h]
theorem isL_none2 {a b : List Int} (h : canonL b = none) : isL a b = false := by unfold isL; rw [h]; cases canonL a <;> rfl
theorem isL_some {a b x y : List Int} (h : canonL a = some x) (h2 : canonL b = some y) : isL a b = (x == y) := by unfold isL; rw [h, h2]
theorem canonL_by {a x : List Int} (ha : By a) (h : canonL a = some x) : By x := by
  unfold canonL at h
  split at h
  · cases h; exact canonT_by ha
  · cases h
set_option maxRecDepth 100000 in
theorem refis_any (s t : ByteArray) (w : World) (hM : s.size ≤ 4000000) (hM2 : t.size ≤ 4000000) :
    Calls Tryz.prog 91 #[.string s, .string t] w fun e w' => e = .returned (.bool (isL (byteL s) (byteL t))) ∧ Below w.heap.size w w' := by
  have N1 := Lib.hid (fun h => isL_none1 (a := byteL s) (b := byteL t) h)
  have N2 := Lib.hid (fun h => isL_none2 (a := byteL s) (b := byteL t) h)
  have SS := Lib.hid (fun x y h h2 => isL_some (a := byteL s) (b := byteL t) (x := x) (y := y) h h2)
  have CS := Lib.hid (fun x h => canonL_by (byteL_by s) (x := x) h)
  have CT := Lib.hid (fun x h => canonL_by (byteL_by t) (x := x) h)
  have C1 := Lib.hid (fun w => refcanon_any s w hM)
  have C2 := Lib.hid (fun w => refcanon_any t w hM2)
  generalize isL (byteL s) (byteL t) = R at *
  generalize canonL (byteL s) = X at *
  generalize canonL (byteL t) = Y at *
  go_enter Tryz.func91, Tryz.ntmps91
  go_wp2_with fail
  refine (C1.out _).mono ?_
  rintro e w1 ⟨rfl, hb1⟩
  have B1 := Lib.hid hb1
  clear hb1
  cases X with
  | none =>
    have E := Lib.hid (N1.out rfl)
    rw [show canonV none = .tuple #[.string ⟨#[]⟩, .int .u8 5] from rfl]
    go_wp2_with fail
    refine (C2.out _).mono ?_
    rintro e w2 ⟨rfl, hb2⟩
    have B2 := Lib.hid (bthen B1.out hb2)
    clear hb2
    cases Y with
    | none =>
      rw [show canonV none = .tuple #[.string ⟨#[]⟩, .int .u8 5] from rfl]
      go_wp2_with fail
      go_ret
      exact ⟨by rw [E.out]; rfl, B2.out⟩
    | some y =>
      rw [show canonV (some y) = .tuple #[.string (strOfNums y), .int .u8 0] from rfl]
      go_wp2_with fail
      go_ret
      exact ⟨by rw [E.out]; rfl, B2.out⟩
  | some x =>
    rw [show canonV (some x) = .tuple #[.string (strOfNums x), .int .u8 0] from rfl]
    go_wp2_with fail
    refine (C2.out _).mono ?_
    rintro e w2 ⟨rfl, hb2⟩
    have B2 := Lib.hid (bthen B1.out hb2)
    clear hb2
    cases Y with
    | none =>
      have E := Lib.hid (N2.out rfl)
      rw [show canonV none = .tuple #[.string ⟨#[]⟩, .int .u8 5] from rfl]
      go_wp2_with fail
      go_ret
      exact ⟨by rw [E.out]; rfl, B2.out⟩
    | some y =>
      have E := Lib.hid (SS.out x y rfl rfl)
      rw [show canonV (some y) = .tuple #[.string (strOfNums y), .int .u8 0] from rfl]
      have QE := toList_beq (CS.out x rfl) (CT.out y rfl)
      cases hc : (x == y) with
      | true =>
        rw [hc] at QE E
        clear hc
        go_wp2_with fail
        go_ret
        exact ⟨by rw [E.out]; rfl, B2.out⟩
      | false =>
        rw [hc] at QE E
        clear hc
        go_wp2_with fail
        go_ret
        exact ⟨by rw [E.out]; rfl, B2.out⟩
end Go.Proofs.YtfhbpgickkibmaaGreatDoor
