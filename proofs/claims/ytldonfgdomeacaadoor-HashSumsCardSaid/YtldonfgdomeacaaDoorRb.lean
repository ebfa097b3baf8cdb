/- The contracts of the reference's Lower, Hex, digit and Unhex. -/
import Derived.Test.YtldonfgdomeacaaDoorLp
namespace Go.Proofs.YtldonfgdomeacaaDoor
open Go.RowKit

def lowC (c : Int) : Int := if 65 ≤ c ∧ c ≤ 70 then c + 32 else c
def lowL (xs : List Int) : List Int := xs.map lowC
theorem lowL_snoc (xs : List Int) (x : Int) : lowL (xs ++ [x]) = lowL xs ++ [lowC x] := by simp [lowL]
theorem lowL_len (xs : List Int) : (lowL xs).length = xs.length := by simp [lowL]
theorem conv_owned {w : World} {base : Nat} {v : Value} {n : Nat} {xs : List Int} (h : w.ownsRow base 5 1 v n (U8 xs)) : (convert 22 9 v).run Tryd.prog w = .ok (.string (strOfNums xs)) w := by
  have hl : xs.length = n := by have := h.1; simpa [U8] using this
  rcases h.2 with ⟨rfl, rfl⟩ | ⟨g, cap, cur, rfl, hb, hg, hc, _, hs, ht⟩
  · obtain rfl : xs = [] := List.eq_nil_of_length_eq_zero hl
    exact run_convert_bytes_nil w 22 5 Tryd.underlying22 Tryd.underlying5 0 0 9 Tryd.underlying9
  · refine run_convert_bytes_arg (P := Tryd.prog) w 22 5 Tryd.underlying22 Tryd.underlying5 g 0 n cap xs hl (fun j hj => ?_) 9 Tryd.underlying9
    rw [Nat.zero_add, cell_of_row w g j cur 5 (0, 0) hg]
    have h2 : (cur.toList.take (n * 1))[j]? = (U8 xs)[j]? := by rw [ht]
    rw [List.getElem?_take, if_pos (by omega), U8_get (getD_some (by omega))] at h2
    simpa using h2
theorem own_block {w : World} {base : Nat} {e : TypeId} {size : Nat} {v : Value} {n : Nat} {xs : List Value} (h : w.ownsRow base e size v n xs) : ∀ k, v.ownBlock = some k → base ≤ k := fun k hk => by
  rcases h.2 with ⟨rfl, _⟩ | ⟨g, cap, cur, rfl, hb, _⟩
  · cases hk
  · simp [Value.ownBlock] at hk; omega
/-- A slice of one's own that holds these bytes. -/
structure OX (w : World) (v : Value) (xs : List Int) (wr : World) : Prop where
  o : wr.ownsRow w.heap.size 5 1 v xs.length (U8 xs)
  bw : Below w.heap.size w wr
theorem OX.nil (w : World) : OX w (.slice none 0 0) [] w := ⟨World.ownsRow_nil _ _ _ _, Below.refl _ _⟩
theorem one_bs (wr : World) (x : Int) : Bs (wr.alloc (.cells #[.int .u8 x] 5)) (wr.alloc (.cells #[.int .u8 x] 5)).heap.size (some ⟨wr.heap.size, 0, none⟩) [x] := fun _ => ⟨_, rfl, by simp, fun j y hy => by
  rw [Addr.add_mid, Nat.zero_add]
  exact ((Row.new wr 5 (U8 [x])).cell j).trans (U8_get hy)⟩
theorem OX.push {w wr w1 : World} {v v1 : Value} {xs : List Int} {x : Int} (H : OX w v xs wr) (o1 : w1.ownsRow w.heap.size 5 1 v1 (xs.length + 1) (U8 (xs ++ [x]))) (hg : (wr.alloc (.cells #[.int .u8 x] 5)).grownBy w1 v.ownBlock) : OX w v1 (xs ++ [x]) w1 :=
  ⟨by simpa using o1, (H.bw.alloc H.bw.size _).grown hg (by have := H.bw.size; simp; omega) (own_block H.o)⟩
theorem one_len (x : Int) : [x].length = 1 := rfl
theorem no_nil {ad : Addr} {p : Prop} : some ad = none → p := fun h => by cases h
theorem OX.base {w wr : World} {v : Value} {xs : List Int} (H : OX w v xs wr) (o : Obj) : w.heap.size ≤ (wr.alloc o).heap.size := by have := H.bw.size; simp; omega
def LWR (w : World) (s : ByteArray) (v v4 : Value) (wr : World) : Prop := ∃ (k : Nat) (x : Value), k ≤ s.size ∧ x = v ∧ v4 = .int .i64 k ∧ OX w x (lowL ((byteL s).take k)) wr
set_option maxRecDepth 100000 in
theorem lower_any (s : ByteArray) (w : World) (hM : s.size ≤ 8192) : Calls Tryd.prog 26 #[.string s] w fun e w' => e = .returned (.string (strOfNums (lowL (byteL s)))) ∧ Below w.heap.size w w' := by
  have HL := Lib.hid (byteL_len s); have HB := Lib.hid (byteL_by s)
  go_enter Tryd.func26, Tryd.ntmps26
  go_wp2_with fail
  go_loopw [3, 4] (fun v v4 wr => LWR w s v v4 wr) (fun _ v _ => s.size - (intOf v).toNat)
  case atStart => exact ⟨0, _, Nat.zero_le _, rfl, rfl, OX.nil w⟩
  case round =>
    obtain ⟨k, v, hk, rfl, rfl, hP⟩ := hrel
    have HP := Lib.hid hP
    clear hP
    by_cases hlt : k < s.size
    · have d1 := fun w => idx_str s (i := k) hlt (z := (k : Int)) rfl w
      have r1 := HB.out _ (List.mem_of_getElem? (getD_some (l := byteL s) (i := k) (by rw [HL.out]; omega)))
      have SN := Lib.hid (take_snocI (byteL s) (k := k) (by rw [HL.out]; exact hlt))
      have hd : decide ((k : Int) < (s.size : Int)) = true := by simp; omega
      have LL := Lib.hid (show (lowL ((byteL s).take k)).length = k by rw [lowL_len, List.length_take, HL.out]; omega)
      generalize (byteL s).getD k 0 = x at *
      have x0 := r1.1
      have x1 := r1.2
      clear r1
      generalize hZ : lowL ((byteL s).take k) = Z at *
      have ZE := Lib.hid hZ
      clear hZ
      have zl : Z.length ≤ 8192 := by rw [LL.out]; omega
      by_cases h1 : 65 ≤ x ∧ x ≤ 70
      · have LC := Lib.hid (show lowC x = x + 32 by unfold lowC; rw [if_pos h1])
        obtain ⟨h2, h3⟩ := h1
        go_wp2_with (with_reducible refine wpList_append_bytes rfl (.tmp 23) (.tmp 25) rfl w.heap.size v Z.length Z rfl (HP.out.o.alloc _) (some ⟨wr.heap.size, 0, none⟩) 1 1 [x + 32] rfl (one_bs _ _) (one_len _) no_nil (by omega) (HP.out.base _) ?_)
        intro v1 w1 o1 g1
        have KEY := Lib.hid (HP.out.push o1 g1)
        clear o1 g1
        go_wp2_with fail
        go_roundw
        case rel =>
          refine ⟨k + 1, v1, by omega, rfl, by go_num, ?_⟩
          rw [SN.out, lowL_snoc, LC.out, ZE.out]
          exact KEY.out
        case measure => simp [intOf]; omega
      · have LC := Lib.hid (show lowC x = x by unfold lowC; rw [if_neg h1])
        rcases (show x < 65 ∨ 70 < x by omega) with h2 | h2
        all_goals
          go_wp2_with (with_reducible refine wpList_append_bytes rfl (.tmp 23) (.tmp 25) rfl w.heap.size v Z.length Z rfl (HP.out.o.alloc _) (some ⟨wr.heap.size, 0, none⟩) 1 1 [x] rfl (one_bs _ _) (one_len _) no_nil (by omega) (HP.out.base _) ?_)
          intro v1 w1 o1 g1
          have KEY := Lib.hid (HP.out.push o1 g1)
          clear o1 g1
          go_wp2_with fail
          go_roundw
          case rel =>
            refine ⟨k + 1, v1, by omega, rfl, by go_num, ?_⟩
            rw [SN.out, lowL_snoc, LC.out, ZE.out]
            exact KEY.out
          case measure => simp [intOf]; omega
    · obtain rfl : k = s.size := by omega
      have O := HP.out.o
      rw [List.take_of_length_le (by rw [HL.out]; omega)] at O
      have CV := conv_owned O
      have BW := Lib.hid HP.out.bw
      clear O HP
      go_wp2_with fail
      go_ret
      exact ⟨rfl, BW.out⟩
end Go.Proofs.YtldonfgdomeacaaDoor
