/- Contracts of the reference 01: Quote, opens, step, Unquote. Contracts of the reference 01: Unquote. -/
import Derived.Test.YtfhbpgickkibmaaGreatDoorCd
import Derived.Test.YtfhbpgickkibmaaGreatDoorCe
namespace Go.Proofs.YtfhbpgickkibmaaGreatDoor
open Go.RowKit

theorem OX.one (w : World) (x : Int) : OX w (.slice (some ⟨w.heap.size, 0, none⟩) 1 1) [x] (w.alloc (.cells #[.int .u8 x] 5)) :=
  ⟨⟨rfl, .inr ⟨_, 1, _, rfl, Nat.le_refl _, heap_alloc_new w _, Nat.le_refl _, by unfold maxLen; omega, by simp, by simp [U8]⟩⟩, (Below.refl _ _).alloc (Nat.le_refl _) _⟩
set_option maxRecDepth 100000 in
theorem refquote_any (s : ByteArray) (w : World) (hM : s.size ≤ 4000000) :
    Calls Tryz.prog 87 #[.string s] w fun e w' => e = .returned (quoteV (byteL s)) ∧ Below w.heap.size w w' := by
  have HB := Lib.hid (byteL_by s)
  have HL := Lib.hid (byteL_len s)
  have QY := Lib.hid (fun h => quoteV_yes (xs := byteL s) h)
  have QN := Lib.hid (fun h => quoteV_no (xs := byteL s) h)
  generalize quoteV (byteL s) = QV at *
  generalize hX : byteL s = X at *
  have HX := Lib.hid hX
  clear hX
  go_enter Tryz.func87, Tryz.ntmps87
  go_wp2_with fail
  have M1 := Lib.hid (OX.one w 34)
  go_loopw [4, 5] (fun v v16 wr => QR w X s.size v v16 wr) (fun _ v _ => s.size - (intOf v).toNat)
  case atStart => exact ⟨0, _, [34], Nat.zero_le _, rfl, rfl, by simp, Lib.hid ⟨rfl, M1.out, fun j hj => absurd hj (by omega)⟩⟩
  case round =>
    clear M1
    obtain ⟨k, x, L, hk, rfl, rfl, hL, H⟩ := hrel
    by_cases hlt : k < s.size
    · have hd : decide ((k : Int) < (s.size : Int)) = true := by simp; omega
      have d1 := fun w => idx_str s (i := k) hlt (z := (k : Int)) rfl w
      have hx2 := HB.out _ (getD_mem (l := X) (i := k) (by rw [HL.out]; exact hlt))
      rw [HX.out] at d1
      have CN := Lib.hid (fun h => clean_no (xs := X) (k := k) (by rw [HL.out]; exact hlt) h)
      have TS := Lib.hid (take_snocI X (k := k) (by rw [HL.out]; exact hlt))
      have NX := Lib.hid (show isCtl (X.getD k 0) = false → ∀ j, j < k + 1 → isCtl (X.getD j 0) = false from fun h j hj => by
        rcases (show j < k ∨ j = k by omega) with h1 | rfl
        · exact H.out.2.2 j h1
        · exact h)
      generalize X.getD k 0 = c at *
      go_wp2_with fail
      refine (refcontrol_any c _ hx2.1 hx2.2).mono ?_
      rintro e w' ⟨rfl, rfl⟩
      cases hp : isCtl c with
      | true =>
        go_wp2_with fail
        go_ret2
        exact ⟨by rw [QN.out (CN.out hp)]; rfl, H.out.2.1.bw⟩
      | false =>
        have PP := Lib.hid hp
        clear hp
        by_cases h34 : c = 34 ∨ c = 92
        · have EC := Lib.hid (show escC c = [92, c] from if_pos h34)
          have hb : (c == 34) = true ∨ ((c == 34) = false ∧ (c == 92) = true) := by
            rcases h34 with rfl | rfl
            · exact .inl rfl
            · exact .inr ⟨rfl, rfl⟩
          clear h34
          rcases hb with hb | ⟨hb, hb2⟩
          all_goals
            go_wp2_with (with_reducible refine wpList_push1 rfl (.tmp 27) (.tmp 28) rfl x L rfl H.out.2.1 92 rfl (by omega) ?_)
            intro v2 w2 L2 E2 l2 M2
            go_wp2_with (with_reducible refine wpList_push1 rfl (.tmp 30) (.tmp 34) rfl v2 L2 rfl M2.out c rfl (by omega) ?_)
            intro v3 w3 L3 E3 l3 M3
            go_wp2_with fail
            go_roundw
            case rel => exact ⟨k + 1, v3, L3, by omega, rfl, by go_num, by omega, Lib.hid ⟨by rw [E3.out, E2.out, TS.out, escL_snoc, EC.out, H.out.1]; simp, M3.out, NX.out PP.out⟩⟩
            case measure => simp [intOf]; omega
        · have EC := Lib.hid (show escC c = [c] from if_neg h34)
          have hb : (c == 34) = false := by simp; omega
          have hb2 : (c == 92) = false := by simp; omega
          clear h34
          go_wp2_with (with_reducible refine wpList_push1 rfl (.tmp 30) (.tmp 34) rfl x L rfl H.out.2.1 c rfl (by omega) ?_)
          intro v3 w3 L3 E3 l3 M3
          go_wp2_with fail
          go_roundw
          case rel => exact ⟨k + 1, v3, L3, by omega, rfl, by go_num, by omega, Lib.hid ⟨by rw [E3.out, TS.out, escL_snoc, EC.out, H.out.1]; simp, M3.out, NX.out PP.out⟩⟩
          case measure => simp [intOf]; omega
    · obtain rfl : k = s.size := by omega
      have CA := Lib.hid (clean_all (xs := X) (fun j hj => H.out.2.2 j (by rw [HL.out] at hj; exact hj)))
      have LE := Lib.hid (show L = 34 :: escL X by rw [H.out.1, List.take_of_length_le (by rw [HL.out]; exact Nat.le_refl _)])
      go_wp2_with (with_reducible refine wpList_push1 rfl (.tmp 36) (.tmp 37) rfl x L rfl H.out.2.1 34 rfl (by omega) ?_)
      intro v3 w3 L3 E3 l3 M3
      have cv := conv_owned M3.out.o
      go_wp2_with fail
      go_ret2
      exact ⟨by rw [QY.out CA.out, E3.out, LE.out]; rfl, M3.out.bw⟩
def opensR (xs : List Int) (z c : Int) : Int × Int := if z < 0 ∨ (xs.length : Int) < z then (0, 2) else if z = xs.length ∨ xs.getD z.toNat 0 ≠ c then (z, 5) else (0, 0)
/-- What the reference's step answers, case by case. -/
def StepIs (xs : List Int) (i : Nat) (r : Int × Int × Int) : Prop :=
  (xs.length ≤ i ∧ r = (0, (xs.length : Int), 6)) ∨
  (i < xs.length ∧ ((isCtl (xs.getD i 0) = true ∧ r = (0, (i : Int), 5)) ∨
    (isCtl (xs.getD i 0) = false ∧ ((xs.getD i 0 ≠ 92 ∧ r = (1, 0, 0)) ∨
      (xs.getD i 0 = 92 ∧ ((i + 1 = xs.length ∧ r = (0, (xs.length : Int), 6)) ∨
        (i + 1 < xs.length ∧ ((¬ (32 ≤ xs.getD (i + 1) 0 ∧ xs.getD (i + 1) 0 ≤ 126) ∧ r = (0, (i : Int), 5)) ∨ ((32 ≤ xs.getD (i + 1) 0 ∧ xs.getD (i + 1) 0 ≤ 126) ∧ r = (2, 0, 0))))))))))
def StepP (xs : List Int) (i : Nat) (w : World) (e : Ending) (w' : World) : Prop := (∃ r, StepIs xs i r ∧ e = .returned (.tuple #[.int .i64 r.1, .int .i64 r.2.1, .int .u8 r.2.2])) ∧ w = w'
end Go.Proofs.YtfhbpgickkibmaaGreatDoor
namespace Go.Proofs.YtfhbpgickkibmaaGreatDoor
open Go.RowKit

end Go.Proofs.YtfhbpgickkibmaaGreatDoor
