/- Contracts of lexis: Quote. -/
import Derived.Test.YtfhbpgickkibmaaGreatDoorCb
import Derived.Test.YtfhbpgickkibmaaGreatDoorMa
namespace Go.Proofs.YtfhbpgickkibmaaGreatDoor
open Go.RowKit

def quoteV (xs : List Int) : Value := if clean xs = true then .tuple #[.string (strOfNums (quoteL xs)), .int .u8 0] else .tuple #[.string ⟨#[]⟩, .int .u8 5]
theorem quoteV_yes {xs : List Int} (h : clean xs = true) : quoteV xs = .tuple #[.string (strOfNums (quoteL xs)), .int .u8 0] := if_pos h
theorem quoteV_no {xs : List Int} (h : clean xs = false) : quoteV xs = .tuple #[.string ⟨#[]⟩, .int .u8 5] := if_neg (by rw [h]; decide)
theorem clean_no {xs : List Int} {k : Nat} (hk : k < xs.length) (h : isCtl (xs.getD k 0) = true) : clean xs = false := by
  cases hc : clean xs with
  | false => rfl
  | true =>
    have := List.all_eq_true.1 hc _ (getD_mem hk)
    rw [h] at this
    cases this
theorem clean_all {xs : List Int} (h : ∀ j, j < xs.length → isCtl (xs.getD j 0) = false) : clean xs = true := by
  refine List.all_eq_true.2 fun x hx => ?_
  obtain ⟨j, hj, rfl⟩ := List.getElem_of_mem hx
  have := h j hj
  rw [List.getD_eq_getElem?_getD, List.getElem?_eq_getElem hj] at this
  simpa using this
theorem OX.made (w : World) (c : Nat) (hc : c ≤ 16777216) : OX w (.slice (some ⟨w.heap.size, 0, none⟩) 0 c) [] (w.alloc (.cells (U8 (List.replicate c 0)).toArray 5)) :=
  ⟨⟨rfl, .inr ⟨_, c, _, rfl, Nat.le_refl _, heap_alloc_new w _, Nat.zero_le _, by unfold maxLen; omega, by simp [U8], by simp [U8]⟩⟩, (Below.refl _ _).alloc (Nat.le_refl _) _⟩
theorem wpList_make0 {ops : Array Oper} {rest : List Oper} {op : Oper} {a : Act} {w : World} {Q : Exit → Act → World → Prop} (hgd : op.guard = none) (x y : Operand) (c : Nat) (ho : op.op = .makeSlice 31 x y) (h1 : a.eval x = .int .i64 ((0 : Nat) : Int)) (h2 : a.eval y = .int .i64 (c : Nat)) (hc : c ≤ 16777216)
    (h : ∀ v' w', OX w v' [] w' → wpList Tryz.prog ops Q rest (a.put op.dst v') w') : wpList Tryz.prog ops Q (op :: rest) a w :=
  wpList_value hgd _ _ (exec_make (l := 0) (c := c) ho h1 h2 (Nat.zero_le _) hc) (h _ _ (OX.made w c hc))
def QR (w : World) (xs : List Int) (m : Nat) (v v16 : Value) (wr : World) : Prop := ∃ (k : Nat) (x : Value) (L : List Int), k ≤ m ∧ x = v ∧ v16 = .int .i64 k ∧ L.length ≤ 2 * k + 1 ∧ Hid (L = 34 :: escL (xs.take k) ∧ OX w x L wr ∧ ∀ j, j < k → isCtl (xs.getD j 0) = false)
set_option maxRecDepth 100000 in
theorem quote_any (s : ByteArray) (w : World) (hM : s.size ≤ 4000000) :
    Calls Tryz.prog 84 #[.string s] w fun e w' => e = .returned (quoteV (byteL s)) ∧ Below w.heap.size w w' := by
  have HB := Lib.hid (byteL_by s)
  have HL := Lib.hid (byteL_len s)
  have QY := Lib.hid (fun h => quoteV_yes (xs := byteL s) h)
  have QN := Lib.hid (fun h => quoteV_no (xs := byteL s) h)
  generalize quoteV (byteL s) = QV at *
  generalize hX : byteL s = X at *
  have HX := Lib.hid hX
  clear hX
  go_enter Tryz.func84, Tryz.ntmps84
  go_wp2_with (with_reducible refine wpList_make0 rfl _ _ (s.size + 2) rfl ?h1 ?h2 (by omega) ?_)
  case h1 => rfl
  case h2 => exact congrArg (Value.int .i64) (by push_cast; rfl)
  intro v0 w0 m0
  have M0 := Lib.hid m0
  clear m0
  go_wp2_with (with_reducible refine wpList_push1 rfl (.tmp 11) (.tmp 12) rfl v0 [] rfl M0.out 34 rfl (by decide) ?_)
  intro v1 w1 L1 E1 l1 M1
  clear M0
  go_wp2_with fail
  go_loopw [4, 16] (fun v v16 wr => QR w X s.size v v16 wr) (fun _ v _ => s.size - (intOf v).toNat)
  case atStart => exact ⟨0, _, L1, Nat.zero_le _, rfl, rfl, by omega, Lib.hid ⟨E1.out, M1.out, fun j hj => absurd hj (by omega)⟩⟩
  case round =>
    clear M1 E1 l1
    obtain ⟨k, x, L, hk, rfl, rfl, hL, H⟩ := hrel
    by_cases hlt : k < s.size
    · have hd : decide ((k : Int) < (s.size : Int)) = true := by simp; omega
      have d1 := fun w => idx_str s (i := k) hlt (z := (k : Int)) rfl w
      have hx2 := HB.out _ (getD_mem (l := X) (i := k) (by rw [HL.out]; exact hlt))
      rw [HX.out] at d1
      have CN := Lib.hid (fun h => clean_no (xs := X) (k := k) (by rw [HL.out]; exact hlt) h)
      have TS := Lib.hid (take_snocI X (k := k) (by rw [HL.out]; exact hlt))
      have NX := Lib.hid (show isCtl (X.getD k 0) = false → ∀ j, j < k + 1 → isCtl (X.getD j 0) = false from fun h j hj => by
        rcases (show j < k ∨ j = k by omega) with h1 | rfl
        · exact H.out.2.2 j h1
        · exact h)
      generalize X.getD k 0 = c at *
      go_wp2_with fail
      refine (control_any c _ hx2.1 hx2.2).mono ?_
      rintro e w' ⟨rfl, rfl⟩
      cases hp : isCtl c with
      | true =>
        go_wp2_with fail
        go_ret2
        exact ⟨by rw [QN.out (CN.out hp)]; rfl, H.out.2.1.bw⟩
      | false =>
        have PP := Lib.hid hp
        clear hp
        by_cases h34 : c = 34 ∨ c = 92
        · have EC := Lib.hid (show escC c = [92, c] from if_pos h34)
          have hb : (c == 34) = true ∨ ((c == 34) = false ∧ (c == 92) = true) := by
            rcases h34 with rfl | rfl
            · exact .inl rfl
            · exact .inr ⟨rfl, rfl⟩
          clear h34
          rcases hb with hb | ⟨hb, hb2⟩
          all_goals
            go_wp2_with (with_reducible refine wpList_push1 rfl (.tmp 30) (.tmp 31) rfl x L rfl H.out.2.1 92 rfl (by omega) ?_)
            intro v2 w2 L2 E2 l2 M2
            go_wp2_with (with_reducible refine wpList_push1 rfl (.tmp 33) (.tmp 37) rfl v2 L2 rfl M2.out c rfl (by omega) ?_)
            intro v3 w3 L3 E3 l3 M3
            go_wp2_with fail
            go_roundw
            case rel => exact ⟨k + 1, v3, L3, by omega, rfl, by go_num, by omega, Lib.hid ⟨by rw [E3.out, E2.out, TS.out, escL_snoc, EC.out, H.out.1]; simp, M3.out, NX.out PP.out⟩⟩
            case measure => simp [intOf]; omega
        · have EC := Lib.hid (show escC c = [c] from if_neg h34)
          have hb : (c == 34) = false := by simp; omega
          have hb2 : (c == 92) = false := by simp; omega
          clear h34
          go_wp2_with (with_reducible refine wpList_push1 rfl (.tmp 33) (.tmp 37) rfl x L rfl H.out.2.1 c rfl (by omega) ?_)
          intro v3 w3 L3 E3 l3 M3
          go_wp2_with fail
          go_roundw
          case rel => exact ⟨k + 1, v3, L3, by omega, rfl, by go_num, by omega, Lib.hid ⟨by rw [E3.out, TS.out, escL_snoc, EC.out, H.out.1]; simp, M3.out, NX.out PP.out⟩⟩
          case measure => simp [intOf]; omega
    · obtain rfl : k = s.size := by omega
      have CA := Lib.hid (clean_all (xs := X) (fun j hj => H.out.2.2 j (by rw [HL.out] at hj; exact hj)))
      have LE := Lib.hid (show L = 34 :: escL X by rw [H.out.1, List.take_of_length_le (by rw [HL.out]; exact Nat.le_refl _)])
      go_wp2_with (with_reducible refine wpList_push1 rfl (.tmp 40) (.tmp 41) rfl x L rfl H.out.2.1 34 rfl (by omega) ?_)
      intro v3 w3 L3 E3 l3 M3
      have cv := conv_owned M3.out.o
      go_wp2_with fail
      go_ret2
      exact ⟨by rw [QY.out CA.out, E3.out, LE.out]; rfl, M3.out.bw⟩
end Go.Proofs.YtfhbpgickkibmaaGreatDoor
