/- Contracts: strings.IndexRune of a rune that is no ASCII, IndexAny of whatever text, address's until. Contracts: address's until. Contracts: the comparison of names, the closure of sorted, a clone of parameters. -/
import Derived.Test.YthfonniieaiocaaGreatDoorUc
import Derived.Laws.RangeAny
import Derived.Deep.LoopGhost
import Derived.WalkMore
import Derived.ScopeJumps
import Derived.Lib.IndexAny
import Derived.Lib.OthersKept
import Derived.Test.YthfonniieaiocaaGreatDoorBn
import Derived.Test.YthfonniieaiocaaGreatDoorBc
set_option linter.unusedVariables false
set_option linter.unusedSimpArgs false
namespace Go.Proofs.YthfonniieaiocaaGreatDoor
open Go.RowKit Go.Shelf

def Asc7 (s : ByteArray) : Prop := ∀ (j : Nat) (b : UInt8), s.data.toList[j]? = some b → b.toNat < 128
theorem Asc7.at {s : ByteArray} (h : Asc7 s) {i : Nat} (hi : i < s.size) : (s[i]'hi).toNat < 128 := h i _ (Lib.data_getElem? s i hi)
theorem get_get (s : ByteArray) (k : Nat) (h : k < s.size) : s.get! k = s[k]'h := by
  simp [ByteArray.get!, getElem!_pos, h]
  rfl
/-- The bytes behind the first of a rune that is no ASCII are none either. -/
theorem decode_skip (s : ByteArray) (i : Nat) (h : i < s.size) (ha : 128 ≤ (s[i]'h).toNat) : ∀ j, i ≤ j → j < i + (Utf8.decode s i).2 → ∃ hj : j < s.size, 128 ≤ (s[j]'hj).toNat := by
  have c : ∀ k, (decide (i + k < s.size) && (s.get! (i + k)).toNat / 64 == 2) = true → ∃ hj : i + k < s.size, 128 ≤ (s[i + k]'hj).toNat := fun k hk => by
    rw [Bool.and_eq_true, decide_eq_true_eq, beq_iff_eq] at hk
    refine ⟨hk.1, ?_⟩
    rw [← get_get s _ hk.1]
    omega
  have base : ∀ j, i ≤ j → j < i + 1 → ∃ hj : j < s.size, 128 ≤ (s[j]'hj).toNat := fun j h1 h2 => by
    obtain rfl : j = i := by omega
    exact ⟨h, ha⟩
  have two : ∀ k j, (∀ j, i ≤ j → j < i + k → ∃ hj : j < s.size, 128 ≤ (s[j]'hj).toNat) → (∃ hj : i + k < s.size, 128 ≤ (s[i + k]'hj).toNat) → i ≤ j → j < i + (k + 1) → ∃ hj : j < s.size, 128 ≤ (s[j]'hj).toNat := fun k j h1 h2 h3 h4 => by
    by_cases hj : j < i + k
    · exact h1 j h3 hj
    · obtain rfl : j = i + k := by omega
      exact h2
  simp only [Utf8.decode]
  split
  · exact base
  · split
    · rename_i h2
      rw [Bool.and_eq_true] at h2
      split
      · exact fun j h3 h4 => two 1 j base (c 1 h2.2) h3 h4
      · exact base
    · split
      · rename_i h2
        rw [Bool.and_eq_true, Bool.and_eq_true] at h2
        split
        · exact fun j h3 h4 => two 2 j (fun j h3 h4 => two 1 j base (c 1 h2.1.2) h3 h4) (c 2 h2.2) h3 h4
        · exact base
      · split
        · rename_i h2
          rw [Bool.and_eq_true, Bool.and_eq_true, Bool.and_eq_true] at h2
          split
          · exact fun j h3 h4 => two 3 j (fun j h3 h4 => two 2 j (fun j h3 h4 => two 1 j base (c 1 h2.1.1.2) h3 h4) (c 2 h2.1.2) h3 h4) (c 3 h2.2) h3 h4
          · exact base
        · exact base
theorem encode_high {r : Int} (h : 128 ≤ r) : 2 ≤ (Utf8.encode r).size ∧ (Utf8.encode r).size ≤ 4 ∧ ∀ b ∈ (Utf8.encode r).data.toList, 128 ≤ b.toNat := by
  obtain ⟨c, hc⟩ : ∃ c, (if Utf8.valid r = true then r.toNat else Utf8.runeError) = c := ⟨_, rfl⟩
  have h1 : 128 ≤ c ∧ c < 1114112 := by
    rw [← hc]
    split
    · rename_i hv
      unfold Utf8.valid at hv
      simp at hv
      omega
    · unfold Utf8.runeError; omega
  unfold Utf8.encode
  simp only [hc]
  have hb : ∀ n : Nat, n < 256 → 128 ≤ n → 128 ≤ (UInt8.ofNat n).toNat := fun n h1 h2 => by
    rw [UInt8.toNat_ofNat']; omega
  rw [if_neg (by omega)]
  by_cases h2 : c < 2048
  · rw [if_pos h2]
    refine ⟨by show 2 ≤ 2; omega, by show 2 ≤ 4; omega, ?_⟩
    intro b hb2
    simp only [List.mem_cons, List.not_mem_nil, or_false] at hb2
    rcases hb2 with rfl | rfl
    · exact hb _ (by omega) (by omega)
    · exact hb _ (by omega) (by omega)
  · rw [if_neg h2]
    by_cases h3 : c < 65536
    · rw [if_pos h3]
      refine ⟨by show 2 ≤ 3; omega, by show 3 ≤ 4; omega, ?_⟩
      intro b hb2
      simp only [List.mem_cons, List.not_mem_nil, or_false] at hb2
      rcases hb2 with rfl | rfl | rfl
      · exact hb _ (by omega) (by omega)
      · exact hb _ (by omega) (by omega)
      · exact hb _ (by omega) (by omega)
    · rw [if_neg h3]
      refine ⟨by show 2 ≤ 4; omega, by show 4 ≤ 4; omega, ?_⟩
      intro b hb2
      simp only [List.mem_cons, List.not_mem_nil, or_false] at hb2
      rcases hb2 with rfl | rfl | rfl | rfl
      · exact hb _ (by omega) (by omega)
      · exact hb _ (by omega) (by omega)
      · exact hb _ (by omega) (by omega)
      · exact hb _ (by omega) (by omega)
theorem idx_no {s : ByteArray} {c : UInt8} (h : ∀ (j : Nat) (b : UInt8), s.data.toList[j]? = some b → b.toNat < 128) (hc : 128 ≤ c.toNat) : Lib.indexByte s.data.toList c = -1 := by
  have h1 : ¬ 0 ≤ Lib.indexByte s.data.toList c := fun h2 => by
    obtain ⟨j, hj⟩ := List.mem_iff_getElem?.1 ((idx_mem c _).1 h2)
    have := h j c hj
    omega
  have h2 : -1 ≤ Lib.indexByte s.data.toList c := by rw [indexByte_bl]; split <;> omega
  omega
theorem Asc7.extract {s : ByteArray} (h : Asc7 s) (a b : Nat) : Asc7 (s.extract a b) := fun j x hj => by
  have e : (s.extract a b).data.toList = (s.data.toList.drop a).take (b - a) := by rw [ByteArray.data_extract, Array.toList_extract]
  rw [e, List.getElem?_take] at hj
  split at hj
  · rw [List.getElem?_drop] at hj; exact h _ x hj
  · cases hj
theorem idxbyte_no (s : ByteArray) (c : UInt8) (w : World) (h : Asc7 s) (hc : 128 ≤ c.toNat) : Calls Tryz.prog 66 #[.string s, .int .u8 (c.toNat : Int)] w fun e w' => e = .returned (.int .i64 (-1)) ∧ w' = w :=
  (Tryz.strings_IndexByte s (c.toNat : Int) w).mono fun e w' h1 => ⟨by rw [h1.1, Lib.byte_back, idx_no h hc], h1.2⟩
set_option maxRecDepth 100000 in
set_option maxHeartbeats 4000000 in
theorem indexrune_high (s : ByteArray) (r : Int) (w : World) (hs : Asc7 s) (h2 : 1 ≤ s.size) (h8 : s.size ≤ 1000) (hr : 128 ≤ r) (hr2 : r ≤ 2147483647) : Calls Tryz.prog 168 #[.string s, .int .i32 r] w fun e w' => e = .returned (.int .i64 (-1)) ∧ Below w.heap.size w w' := by
  have HA := Lib.hid hs
  clear hs
  have r0 : decide (0 ≤ r) = true := decide_eq_true (by omega)
  have r1 : decide (r < 128) = false := decide_eq_false (by omega)
  by_cases he : r = 65533
  · subst he
    clear hr hr2 r0 r1
    go_enter Tryz.func168, Tryz.ntmps168
    go_wp2
    go_loopg [5, 6] s.size (fun g _ _ wx => ∃ i : Nat, i + g = s.size ∧ wx = w.iter s i)
    case atStart => exact ⟨0, by omega, rfl⟩
    case round =>
      obtain ⟨i, hig, rfl⟩ := hrel
      cases gk with
      | zero =>
        obtain rfl : i = s.size := by omega
        have hnx := run_next_end (P := Tryz.prog) w s s.size
        go_wp2
        go_ret
        exact ⟨rfl, (Below.refl _ _).alloc (Nat.le_refl _) _⟩
      | succ g =>
        have hi : i < s.size := by omega
        have hx128 := HA.out.at hi
        obtain ⟨x, hx⟩ : ∃ x : UInt8, s[i]'hi = x := ⟨_, rfl⟩
        rw [hx] at hx128
        have hnx := fun ty => run_next_ascii (P := Tryz.prog) w s i ty hi (by rw [hx]; exact hx128)
        rw [hx] at hnx
        clear hx
        have hne : ((x.toNat : Int) == 65533) = false := by simp; omega
        go_wp2
        go_roundg g
        case measure => omega
        case rel => exact ⟨i + 1, by omega, rfl⟩
  · have q0 : (r == 65533) = false := by simpa using he
    have VR := Lib.hid (fun w => (Tryz.utf8_ValidRune r w).mono (R' := fun e w' => e = .returned (.bool (Lib.validRune r)) ∧ w = w') fun e w' h => ⟨h.1, h.2.symm⟩)
    cases hv : Lib.validRune r with
    | false =>
      rw [hv] at VR
      go_enter Tryz.func168, Tryz.ntmps168
      go_wp2_with (go_at_call 194; refine (VR.out _).mono ?_; rintro e w' ⟨rfl, rfl⟩)
      go_ret
      exact ⟨rfl, Below.refl _ _⟩
    | true =>
      rw [hv] at VR
      obtain ⟨e2, e4, eb⟩ := encode_high hr
      obtain ⟨rs, hrs⟩ : ∃ rs, Utf8.encode r = rs := ⟨_, rfl⟩
      have cvt : ∀ w, (convert 21 9 (.int .i32 r)).run Tryz.prog w = .ok (.string rs) w := fun w => by
        rw [← hrs]
        simp [convert, run_underlying Tryz.underlying21, run_underlying Tryz.underlying9, Conv.intToString, Sem.run_pure]
      rw [hrs] at e2 e4 eb
      clear hrs
      have EB := Lib.hid eb
      clear eb hv
      go_enter Tryz.func168, Tryz.ntmps168
      go_wp2_with (go_at_call 194; refine (VR.out _).mono ?_; rintro e w' ⟨rfl, rfl⟩)
      go_step3
      go_wp2_with fail
      go_loopw [9] (fun v wr => v = .int .i64 ((rs.size : Int) - 1) ∧ Hid (Below w.heap.size w wr)) (fun _ _ => 0)
      case atStart => exact ⟨rfl, Lib.hid (Below.refl _ _)⟩
      case round =>
        obtain ⟨rfl, BW⟩ := hrel
        by_cases hlt : rs.size - 1 < s.size
        · have hd : decide ((rs.size : Int) - 1 < (s.size : Int)) = true := by simp; omega
          have sx := HA.out.at hlt
          have rx := EB.out (rs[rs.size - 1]'(by omega)) (List.mem_of_getElem? (Lib.data_getElem? rs (rs.size - 1) (by omega)))
          have d1 := fun w => idx_str s (i := rs.size - 1) hlt (z := (rs.size : Int) - 1) (by omega) w
          have d2 := fun w => idx_str rs (i := rs.size - 1) (by omega) (z := (rs.size : Int) - 1) (by omega) w
          rw [← byteL_at s hlt] at d1
          rw [← byteL_at rs (show rs.size - 1 < rs.size by omega)] at d2
          generalize s[rs.size - 1] = xa at *
          generalize rs[rs.size - 1] = xb at *
          have hne : ((xa.toNat : Int) == (xb.toNat : Int)) = false := by simp; omega
          have IB := Lib.hid (fun w => (idxbyte_no (s.extract rs.size s.size) xb w (HA.out.extract _ _) rx).mono (R' := fun e w' => e = .returned (.int .i64 (-1)) ∧ ∃ q, w' = w.drewN q) fun e w' h => ⟨h.1, 0, h.2⟩)
          have i1 : (rs.size : Int) ≤ (s.size : Int) := by omega
          have i2 : (0 : Int) ≤ (rs.size : Int) := by omega
          have i3 : IntKind.i64.wrap (rs.size : Int) = (rs.size : Int) := IntWalk.i64_in _ (by omega)
          clear sx rx EB
          go_wp2_with fail
          go_step3
          go_wp2_with fail
          go_quiet (fail)
          have B2 := Lib.hid (bthen BW.out (below_drewN wr nq))
          generalize wr.drewN nq = w2 at *
          go_wp2_with fail
          go_quiet ((go_at_call 66; exact Calls.quiet_of (IB.out _)))
          go_wp2_with fail
          rw [Exit.noGoto_ret]
          simp +zetaDelta only [Exit.noGoto_ret, Exit.inBlock, Exit.then]
          go_ret
          exact ⟨rfl, bthen B2.out (below_drewN _ _)⟩
        · have hd : decide ((rs.size : Int) - 1 < (s.size : Int)) = false := by simp; omega
          go_wp2_with fail
          rw [Exit.noGoto_ret]
          go_ret
          exact ⟨rfl, BW.out⟩
/-- What the iteration has passed holds none of the stops. -/
def NoStop (s st : ByteArray) (i : Nat) : Prop := Lib.NoAny s.data.toList st.data.toList i
theorem NoStop.skip {s st : ByteArray} {i k : Nat} (hst : Asc7 st) (h : NoStop s st i) (hk : ∀ j, i ≤ j → j < i + k → ∃ hj : j < s.size, 128 ≤ (s[j]'hj).toNat) : NoStop s st (i + k) := fun j b hj hb => by
  by_cases h1 : j < i
  · exact h j b h1 hb
  · obtain ⟨h2, h3⟩ := hk j (by omega) hj
    have e := Lib.data_getElem? s j h2
    rw [hb] at e
    injection e with e
    subst e
    rw [Bool.eq_false_iff]
    intro hc
    obtain ⟨q, hq⟩ := List.mem_iff_getElem?.1 (List.contains_iff_mem.1 hc)
    have := hst q _ hq
    omega
set_option maxRecDepth 100000 in
set_option maxHeartbeats 4000000 in
theorem indexany_short (s st : ByteArray) (w : World) (h2 : 2 ≤ st.size) (hst : st.size ≤ 1000) (h8 : s.size ≤ 8) (hA : Asc7 st) : Calls Tryz.prog 135 #[.string s, .string st] w fun e w' => e = .returned (.int .i64 (Lib.indexAny s.data.toList st.data.toList)) ∧ Below w.heap.size w w' := by
  have HA := Lib.hid hA
  clear hA
  have hemp : st.toList.isEmpty = false := by
    rw [Lib.toList_data]
    cases h : st.data.toList with
    | nil => have := Lib.size_eq st; rw [h, List.length_nil] at this; omega
    | cons _ _ => rfl
  have hn1 : ((st.size : Int) == 1) = false := beq_eq_false_iff_ne.2 (by omega)
  have h8z : decide ((8 : Int) < (s.size : Int)) = false := decide_eq_false (by omega)
  have SU := Lib.hid (fun w => (Tryz.strings_shouldUseASCIISet (s.size : Int) w).mono (R' := fun e w' => e = .returned (.bool false) ∧ w = w') fun e w' h => ⟨by rw [h.1, h8z], h.2.symm⟩)
  go_enter Tryz.func135, Tryz.ntmps135
  go_wp2_with (go_at_call 169; refine (SU.out _).mono ?_; rintro e w' ⟨rfl, rfl⟩)
  go_loopg [9, 10] s.size (fun g _ _ wx => ∃ i : Nat, i + g = s.size ∧ Hid (wx.heap[w.heap.size]? = some (.stringIter s i)) ∧ Hid (Below w.heap.size w wx) ∧ Hid (NoStop s st i))
  case atStart => exact ⟨0, by omega, Lib.hid (World.iter_heap w s 0), Lib.hid ((Below.refl _ _).alloc (Nat.le_refl _) _), Lib.hid (Lib.NoAny.zero _ _)⟩
  case round =>
    obtain ⟨i, hig, IT, BW, NS⟩ := hrel
    cases gk with
    | zero =>
      obtain rfl : i = s.size := by omega
      have hnx := fun ty => Lib.run_next_end_at (P := Tryz.prog) wr w.heap.size s s.size ty IT.out (by omega)
      go_wp2
      go_ret
      exact ⟨by rw [Lib.indexAny_none (by rw [← Lib.size_eq]; exact NS.out)]; rfl, BW.out⟩
    | succ g =>
      have hi : i < s.size := by omega
      have SX := Lib.hid (Lib.data_getElem? s i hi)
      by_cases hx : (s[i]'hi).toNat < 128
      · have hnx := fun ty => Lib.run_next_ascii_at (P := Tryz.prog) wr w.heap.size s i ty IT.out hi hx
        have B2 := Lib.hid (Lib.below_iterAt BW.out (Nat.le_refl _) s (i + 1))
        have I2 := Lib.hid (Lib.iterAt_heap wr w.heap.size s i (i + 1) IT.out)
        generalize s[i] = x at *
        have hcon := Lib.contains_iff_indexByte st.data.toList x
        have IR := Lib.hid (fun w => (Tryz.strings_IndexRune_ascii st (x.toNat : Int) w (by omega) (by omega)).mono (R' := fun e w' => e = .returned (.int .i64 (Lib.indexByte st.data.toList x)) ∧ w = w') fun e w' h => ⟨by rw [h.1, Lib.byte_back], h.2.symm⟩)
        have HIT := Lib.hid (fun h => Lib.indexAny_hit NS.out SX.out h)
        have MIS := Lib.hid (fun h => Lib.NoAny.succ NS.out SX.out h)
        generalize wr.iterAt w.heap.size s (i + 1) = w2 at *
        cases hin : st.data.toList.contains x with
        | true =>
          rw [hin] at hcon
          have hge : decide ((0 : Int) ≤ Lib.indexByte st.data.toList x) = true := hcon.symm
          have E := Lib.hid (HIT.out hin)
          clear hcon hin HIT MIS
          generalize Lib.indexByte st.data.toList x = z at *
          go_wp2_with (go_at_call 168; refine (IR.out _).mono ?_; rintro e w' ⟨rfl, rfl⟩)
          go_ret
          exact ⟨by rw [E.out]; rfl, B2.out⟩
        | false =>
          rw [hin] at hcon
          have hge : decide ((0 : Int) ≤ Lib.indexByte st.data.toList x) = false := hcon.symm
          have E := Lib.hid (MIS.out hin)
          clear hcon hin HIT MIS
          generalize Lib.indexByte st.data.toList x = z at *
          go_wp2_with (go_at_call 168; refine (IR.out _).mono ?_; rintro e w' ⟨rfl, rfl⟩)
          go_roundg g
          case measure => omega
          case rel => exact ⟨i + 1, by omega, I2, B2, E⟩
      · have hx2 : 128 ≤ (s[i]'hi).toNat := by omega
        have hnx := fun ty => Lib.run_next_any_at (P := Tryz.prog) wr w.heap.size s i ty IT.out hi
        obtain ⟨dh1, dh2⟩ := decode_high s i hi hx2
        have dh3 := decode_le s i
        have NX := Lib.hid (NoStop.skip HA.out NS.out (decode_skip s i hi hx2))
        have LE : i + (Utf8.decode s i).2 ≤ s.size := by
          obtain ⟨h1, _⟩ := decode_skip s i hi hx2 (i + (Utf8.decode s i).2 - 1) (by omega) (by omega)
          omega
        have B2 := Lib.hid (Lib.below_iterAt BW.out (Nat.le_refl _) s (i + (Utf8.decode s i).2))
        have I2 := Lib.hid (Lib.iterAt_heap wr w.heap.size s i (i + (Utf8.decode s i).2) IT.out)
        generalize wr.iterAt w.heap.size s (i + (Utf8.decode s i).2) = w2 at *
        generalize (Utf8.decode s i).1 = r at *
        generalize (Utf8.decode s i).2 = k at *
        have IR := Lib.hid (fun w => indexrune_high st (r : Int) w HA.out (by omega) (by omega) (by omega) (by omega))
        clear hx hx2 SX
        go_wp2_with (go_at_call 168; refine (IR.out _).mono ?_; rintro e w3 ⟨rfl, hb⟩; have B3 := Lib.hid (bthen B2.out hb); have I3 := Lib.hid ((hb.block _ (lt_of_block I2.out)).trans I2.out); clear hb)
        go_roundg (s.size - (i + k))
        case measure => omega
        case rel => exact ⟨i + k, by omega, I3, B3, NX⟩
theorem zero256 (w : World) : (zeroValue (159)).run Tryz.prog w = .ok (.agg (Array.replicate 256 (.bool false))) w := by kernel_rfl
/-- IndexAny, whatever the text; the stops are ASCII. -/
theorem indexany_any (s st : ByteArray) (w : World) (hs : s.size ≤ 4000000) (h1 : 1 ≤ st.size) (h2 : st.size ≤ 1000) (hA : Asc7 st) : Calls Tryz.prog 135 #[.string s, .string st] w fun e w' => e = .returned (.int .i64 (if s.size ≤ untilL (byteL s) 0 (byteL st) then -1 else (untilL (byteL s) 0 (byteL st) : Int))) ∧ Below w.heap.size w w' := by
  have e0 : Lib.indexAny s.data.toList st.data.toList = if s.size ≤ untilL (byteL s) 0 (byteL st) then -1 else (untilL (byteL s) 0 (byteL st) : Int) := by
    rw [indexAny_bl, show (bl s.data.toList).length = s.size from byteL_len s]; rfl
  rw [← e0]
  by_cases h3 : st.size = 1
  · exact (Tryz.strings_IndexAny_one s st w h3 hA).mono fun e w' h => ⟨h.1, by rw [h.2]; exact Below.refl _ _⟩
  · by_cases h8 : 8 < s.size
    · exact (Tryz.strings_IndexAny_long zero256 s st w (by omega) h8 (by omega) (by omega) hA).mono fun e w' h => ⟨h.1, by
        rw [h.2]; exact ((Below.refl _ _).alloc (Nat.le_refl _) _).alloc (by rw [World.size_alloc]; omega) _⟩
    · exact indexany_short s st w (by omega) h2 (by omega) hA
end Go.Proofs.YthfonniieaiocaaGreatDoor
namespace Go.Proofs.YthfonniieaiocaaGreatDoor
open Go.RowKit

theorem until_drop (X : List Int) (a : Nat) (st : List Int) : untilL X a st = a + untilL (X.drop a) 0 st := by
  unfold untilL skipTo
  rw [List.drop_zero, Nat.zero_add]
set_option maxRecDepth 100000 in
theorem until_any (s st : ByteArray) (a : Nat) (w : World) (hs : s.size ≤ 4000000) (ha : a ≤ s.size) (h1 : 1 ≤ st.size) (h2 : st.size ≤ 1000) (hA : Asc7 st) :
    Calls Tryz.prog 71 #[.agg #[.string s], .int .i64 a, .string st] w fun e w' => e = .returned (.int .i64 (untilL (byteL s) a (byteL st))) ∧ Below w.heap.size w w' := by
  have HL := byteL_len s
  have ZL : byteL (s.extract a s.size) = (byteL s).drop a := by
    rw [byteL_extract, List.take_of_length_le (by rw [List.length_drop, HL]; exact Nat.le_refl _)]
  have ZS : (s.extract a s.size).size = s.size - a := by rw [← byteL_len, ZL, List.length_drop, HL]
  have IA := Lib.hid (fun w => indexany_any (s.extract a s.size) st w (by omega) h1 h2 hA)
  have E := Lib.hid (until_drop (byteL s) a (byteL st))
  have LE := skip_le (p := fun c => !(byteL st).contains c) (xs := (byteL s).drop a) (i := 0) (Nat.zero_le _)
  have LE2 : untilL ((byteL s).drop a) 0 (byteL st) ≤ s.size - a := by
    rw [List.length_drop, HL] at LE; exact LE
  rw [ZL, ZS] at IA
  generalize untilL (byteL s) a (byteL st) = R at *
  generalize untilL ((byteL s).drop a) 0 (byteL st) = k at *
  clear ZL ZS LE HL
  have i1 : (a : Int) ≤ (s.size : Int) := by omega
  have R0 := Lib.hid (Row.new w 82 [.string s])
  have B0 := Lib.hid ((Below.refl w.heap.size w).alloc (Nat.le_refl _) (.cells #[.string s] 82))
  by_cases hk : s.size - a ≤ k
  · rw [if_pos hk] at IA
    have E2 := Lib.hid (show R = s.size by rw [E.out]; omega)
    clear E LE2 hk
    go_enter Tryz.func71, Tryz.ntmps71
    go_wp2_with (go_at_call 135; refine (IA.out _).mono ?_; rintro e w1 ⟨rfl, hb⟩; have B1 := Lib.hid (bthen B0.out hb); have R1 := Lib.hid (R0.out.below hb); clear hb; have k0 := R1.out.cell 0; simp only [List.getElem?_cons_zero] at k0)
    go_ret
    exact ⟨by rw [E2.out]; rfl, B1.out⟩
  · rw [if_neg hk] at IA
    have E2 := Lib.hid (show (R : Int) = (a : Int) + (k : Int) by rw [E.out]; omega)
    have d0 : decide ((0 : Int) ≤ (k : Int)) = true := by simp
    have kb : (k : Int) ≤ 4000000 := by omega
    clear E LE2 hk
    go_enter Tryz.func71, Tryz.ntmps71
    go_wp2_with (go_at_call 135; refine (IA.out _).mono ?_; rintro e w1 ⟨rfl, hb⟩; have B1 := Lib.hid (bthen B0.out hb); have R1 := Lib.hid (R0.out.below hb); clear hb; have k0 := R1.out.cell 0; simp only [List.getElem?_cons_zero] at k0)
    go_ret
    exact ⟨by rw [E2.out]; rfl, B1.out⟩
end Go.Proofs.YthfonniieaiocaaGreatDoor
namespace Go.Proofs.YthfonniieaiocaaGreatDoor
open Go.RowKit

theorem less_bl : ∀ (x y : List UInt8), Op.bytesLess x y = ltL (bl x) (bl y)
  | [], [] => rfl
  | [], _ :: _ => rfl
  | _ :: _, [] => rfl
  | a :: x, b :: y => by
    rw [show bl (a :: x) = (a.toNat : Int) :: bl x from rfl, show bl (b :: y) = (b.toNat : Int) :: bl y from rfl]
    unfold Op.bytesLess ltL
    rw [less_bl x y]
    by_cases h1 : (a.toNat : Int) < (b.toNat : Int)
    · rw [if_pos h1]
      have : (decide (a < b)) = true := decide_eq_true (UInt8.lt_iff_toNat_lt.2 (by omega))
      rw [this]; rfl
    · rw [if_neg h1]
      have h2 : (decide (a < b)) = false := decide_eq_false (fun h => h1 (by have := UInt8.lt_iff_toNat_lt.1 h; omega))
      rw [h2, Bool.false_or]
      by_cases h3 : (b.toNat : Int) < (a.toNat : Int)
      · rw [if_pos h3]
        have : (a == b) = false := by
          rw [beq_eq_false_iff_ne]; rintro rfl; omega
        rw [this]; rfl
      · rw [if_neg h3]
        have : a = b := UInt8.toNat_inj.1 (by omega)
        rw [this]; simp
theorem less_byteL (x y : ByteArray) : Op.bytesLess x.toList y.toList = ltL (byteL x) (byteL y) := by
  rw [ByteArray.toList_eq, ByteArray.toList_eq, less_bl]; rfl
theorem less_num {x y : List Int} (hx : By x) (hy : By y) : Op.bytesLess (strOfNums x).toList (strOfNums y).toList = ltL x y := by rw [less_byteL, byteL_str hx, byteL_str hy]
/-- The order of two names, as cmp.Compare gives it. -/
def cmpL (x y : List Int) : Int := if ltL x y = true then -1 else if ltL y x = true then 1 else 0
theorem nan_any (s : ByteArray) (w : World) : Calls Tryz.prog 173 #[.string s] w fun e w' => e = .returned (.bool false) ∧ w = w' := by
  go_enter Tryz.func173, Tryz.ntmps173
  go_wp2
  go_ret
  exact ⟨rfl, rfl⟩
set_option maxRecDepth 100000 in
theorem cmpstr_any (x y : List Int) (w : World) (hx : By x) (hy : By y) : Calls Tryz.prog 138 #[.string (strOfNums x), .string (strOfNums y)] w fun e w' => e = .returned (.int .i64 (cmpL x y)) ∧ w = w' := by
  have N1 := Lib.hid (fun w => nan_any (strOfNums x) w)
  have N2 := Lib.hid (fun w => nan_any (strOfNums y) w)
  have l1 := less_num hx hy
  have q1 := getD_beq hx hy
  have E := Lib.hid (show cmpL x y = if ltL x y = true then -1 else if ltL y x = true then 1 else 0 from rfl)
  have T := Lib.hid (fun (h1 : ltL x y = false) (h2 : ltL y x = true) => show (x == y) = false by
    rw [beq_eq_false_iff_ne]; rintro rfl; rw [h1] at h2; cases h2)
  have T2 := Lib.hid (fun (h1 : ltL x y = false) (h2 : ltL y x = false) => show (x == y) = true by
    rw [ltL_tri h1 h2]; simp)
  generalize cmpL x y = R at *
  cases h1 : ltL x y with
  | true =>
    rw [h1] at l1
    have E2 := Lib.hid (show R = -1 by rw [E.out, h1]; rfl)
    clear q1 T T2 E h1
    go_enter Tryz.func138, Tryz.ntmps138
    go_wp2_with (first | (go_at_call 173; with_reducible refine (N1.out _).mono ?_; rintro e w' ⟨rfl, rfl⟩) | (go_at_call 173; with_reducible refine (N2.out _).mono ?_; rintro e w' ⟨rfl, rfl⟩))
    go_ret
    exact ⟨by rw [E2.out]; rfl, rfl⟩
  | false =>
    rw [h1] at l1
    cases h2 : ltL y x with
    | true =>
      have E2 := Lib.hid (show R = 1 by rw [E.out, h1, h2]; rfl)
      have q2 := q1.trans (T.out h1 h2)
      clear q1 T T2 E h1 h2
      go_enter Tryz.func138, Tryz.ntmps138
      go_wp2_with (first | (go_at_call 173; with_reducible refine (N1.out _).mono ?_; rintro e w' ⟨rfl, rfl⟩) | (go_at_call 173; with_reducible refine (N2.out _).mono ?_; rintro e w' ⟨rfl, rfl⟩))
      go_ret
      exact ⟨by rw [E2.out]; rfl, rfl⟩
    | false =>
      have E2 := Lib.hid (show R = 0 by rw [E.out, h1, h2]; rfl)
      have q2 := q1.trans (T2.out h1 h2)
      clear q1 T T2 E h1 h2
      go_enter Tryz.func138, Tryz.ntmps138
      go_wp2_with (first | (go_at_call 173; with_reducible refine (N1.out _).mono ?_; rintro e w' ⟨rfl, rfl⟩) | (go_at_call 173; with_reducible refine (N2.out _).mono ?_; rintro e w' ⟨rfl, rfl⟩))
      go_ret
      exact ⟨by rw [E2.out]; rfl, rfl⟩
set_option maxRecDepth 100000 in
theorem sortcl_any (p q : Pm) (w : World) (hp : By p.n) (hq : By q.n) : Calls Tryz.prog 137 #[.agg (pmC p).toArray, .agg (pmC q).toArray] w fun e w' => e = .returned (.int .i64 (cmpL p.n q.n)) ∧ w' = (w.alloc (.cells (pmC p).toArray 56)).alloc (.cells (pmC q).toArray 56) := by
  have CM := Lib.hid (fun w => cmpstr_any p.n q.n w hp hq)
  obtain ⟨pn, pv, ph⟩ := p
  obtain ⟨qn, qv, qh⟩ := q
  unfold pmC
  dsimp only at CM ⊢
  generalize cmpL pn qn = R at *
  have R0 := (Row.new w 56 [.string (strOfNums pn), .string (strOfNums pv), .bool ph]).alloc (.cells #[.string (strOfNums qn), .string (strOfNums qv), .bool qh] 56)
  have R1 := Row.new (w.alloc (.cells #[.string (strOfNums pn), .string (strOfNums pv), .bool ph] 56)) 56 [.string (strOfNums qn), .string (strOfNums qv), .bool qh]
  have k0 := R0.cell 0
  have k1 := R1.cell 0
  rw [World.size_alloc] at k1
  simp only [List.getElem?_cons_zero] at k0 k1
  clear R0 R1
  go_enter Tryz.func137, Tryz.ntmps137
  go_wp2_with (go_at_call 138; refine (CM.out _).mono ?_; rintro e w' ⟨rfl, rfl⟩)
  go_ret
  exact ⟨rfl, rfl⟩
theorem pms_one (l : List Pm) : ∀ u ∈ pms l, u.oneCell' = true := fun u hu => by
  obtain ⟨p, _, hp⟩ := List.mem_flatMap.1 hu
  exact pm_one _ _ _ u hp
theorem VX.newE (w : World) (T : TypeId) (sz : Nat) : VX T sz w (.slice (some ⟨w.heap.size, 0, none⟩) 0 0) 0 [] (w.alloc (.cells #[] T)) := by
  refine ⟨⟨by simp, .inr ⟨w.heap.size, 0, _, rfl, Nat.le_refl _, heap_alloc_new w _, ?_⟩⟩, (Below.refl _ _).alloc (Nat.le_refl _) _⟩
  simp
set_option maxRecDepth 100000 in
theorem clonep_any (A : Option Addr) (n c : Nat) (l : List Pm) (w : World) (hn : l.length = n) (hA : Rds w w.heap.size A (pms l)) (hnil : A = none → n = 0 ∧ c = 0) (hN : n ≤ 2000000) :
    Calls Tryz.prog 119 #[.slice A n c] w fun e w' => ∃ v, e = .returned v ∧ VX 56 3 w v n (pms l) w' := by
  have HN := Lib.hid hn; have HA := Lib.hid hA
  cases A with
  | none =>
    obtain ⟨rfl, rfl⟩ := hnil rfl
    obtain rfl : l = [] := List.eq_nil_of_length_eq_zero hn
    have e1 := fun w => Lib.run_eql_slice_nil (P := Tryz.prog) w 30 56 none 0 0 0 0 Tryz.underlying30
    clear hn hA hnil
    go_enter Tryz.func119, Tryz.ntmps119
    go_wp2_with fail
    go_ret
    exact ⟨_, rfl, VX.nil _ _ _⟩
  | some ad =>
    have e1 := fun w => Lib.run_eql_slice_nil (P := Tryz.prog) w 30 56 (some ad) n c 0 0 Tryz.underlying30
    have V0 := Lib.hid (VX.newE w 56 3)
    have HB1 := Lib.hid ((hA.below V0.out.bw).up V0.out.bw.size)
    obtain ⟨i, hi, hz, hsz, hbt⟩ := infoPm
    have HI := Lib.hid hi; have HZ := Lib.hid hz; have HS := Lib.hid hsz; have HT := Lib.hid hbt
    clear hn hA hnil hi hz hsz hbt
    go_enter Tryz.func119, Tryz.ntmps119
    go_wp2_with (with_reducible refine wpList_append_own _ rfl (.tmp 5) (.tmp 6) 30 rfl w.heap.size 56 i (.agg #[.string ⟨#[]⟩, .string ⟨#[]⟩, .bool false]) 3 40 Tryz.underlying30 HI.out HZ.out HS.out HT.out rfl (by decide) (.slice (some ⟨w.heap.size, 0, none⟩) 0 0) 0 [] rfl V0.out.o ad n c (pms l) rfl (by rw [pms_len, HN.out]) ?h1 (pms_one l) (by unfold maxLen; omega) (by omega) V0.out.bw.size ?h2)
    case h1 =>
      intro j u hu
      obtain ⟨b, o, e, _, hc⟩ := HB1.out (by have := (List.getElem?_eq_some_iff.1 hu).1; omega)
      cases e
      rw [Addr.add_mid]
      exact hc j u hu
    case h2 =>
      intro v' w' h1 h2 _
      have h3 : w'.ownsRow w.heap.size 56 3 v' n (pms l) := by simpa using h1
      have RB := Lib.hid (show VX 56 3 w v' n (pms l) w' from ⟨h3, V0.out.bw.grown h2 V0.out.bw.size (fun k hk => by simp [Value.ownBlock] at hk; omega)⟩)
      clear h1 h2 h3
      go_wp2_with fail
      go_ret
      exact ⟨_, rfl, RB.out⟩
end Go.Proofs.YthfonniieaiocaaGreatDoor
