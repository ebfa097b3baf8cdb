/- Plain words: canonical names of headers. Contracts of header: lowerByte, upperByte, longName, eachByte with both of its functions. The contract of header's Canon. -/
import Derived.Test.YtcnkjgjimcddiaaGreatDoorPi
import Derived.Test.YtcnkjgjimcddiaaGreatDoorCl
import Derived.Test.YtcnkjgjimcddiaaGreatDoorCs
namespace Go.Proofs.YtcnkjgjimcddiaaGreatDoor
open Go.RowKit

def upC (c : Int) : Int := if 97 ≤ c ∧ c ≤ 122 then c - 32 else c
def capC (b : Bool) (c : Int) : Int := if b = true then upC c else lowC c
def capStep (s : List Int × Bool) (c : Int) : List Int × Bool := (s.1 ++ [capC s.2 c], capC s.2 c == 45)
/-- The letters so far, and whether the next one begins a word. -/
def capF (xs : List Int) : List Int × Bool := xs.foldl capStep ([], true)
def capL (xs : List Int) : List Int := (capF xs).1
theorem capF_snoc (xs : List Int) (c : Int) : capF (xs ++ [c]) = capStep (capF xs) c := by unfold capF; rw [List.foldl_append]; rfl
theorem capF_len : ∀ (xs : List Int) (s : List Int × Bool), (xs.foldl capStep s).1.length = s.1.length + xs.length
  | [], s => by simp
  | c :: xs, s => by rw [List.foldl_cons, capF_len xs, List.length_cons]; simp [capStep]; omega
theorem capL_len (xs : List Int) : (capL xs).length = xs.length := by unfold capL capF; rw [capF_len]; simp
theorem upC_by {c : Int} (h : 0 ≤ c ∧ c < 256) : 0 ≤ upC c ∧ upC c < 256 := by unfold upC; split <;> omega
theorem capC_by {c : Int} (b : Bool) (h : 0 ≤ c ∧ c < 256) : 0 ≤ capC b c ∧ capC b c < 256 := by
  unfold capC; split
  · exact upC_by h
  · exact lowC_by h
theorem capF_by : ∀ (xs : List Int) (s : List Int × Bool), By xs → By s.1 → By (xs.foldl capStep s).1
  | [], s, _, h => h
  | c :: xs, s, h, hs => by
    rw [List.foldl_cons]
    refine capF_by xs _ (fun x hx => h x (by simp [hx])) (fun x hx => ?_)
    rcases List.mem_append.1 hx with h1 | h1
    · exact hs x h1
    · rw [List.mem_singleton] at h1; subst h1; exact capC_by _ (h c (by simp))
theorem capL_by {xs : List Int} (h : By xs) : By (capL xs) := capF_by xs _ h (fun x hx => by cases hx)
def SPECIALS : List (List Int) := [[67, 97, 108, 108, 45, 73, 68], [67, 83, 101, 113], [77, 73, 77, 69, 45, 86, 101, 114, 115, 105, 111, 110], [77, 105, 110, 45, 83, 69], [82, 65, 99, 107], [82, 83, 101, 113], [87, 87, 87, 45, 65, 117, 116, 104, 101, 110, 116, 105, 99, 97, 116, 101]]
def LONGS : List (Int × List Int) := [(98, [82, 101, 102, 101, 114, 114, 101, 100, 45, 66, 121]), (99, [67, 111, 110, 116, 101, 110, 116, 45, 84, 121, 112, 101]), (101, [67, 111, 110, 116, 101, 110, 116, 45, 69, 110, 99, 111, 100, 105, 110, 103]), (102, [70, 114, 111, 109]), (105, [67, 97, 108, 108, 45, 73, 68]), (107, [83, 117, 112, 112, 111, 114, 116, 101, 100]), (108, [67, 111, 110, 116, 101, 110, 116, 45, 76, 101, 110, 103, 116, 104]), (109, [67, 111, 110, 116, 97, 99, 116]), (111, [69, 118, 101, 110, 116]), (114, [82, 101, 102, 101, 114, 45, 84, 111]), (115, [83, 117, 98, 106, 101, 99, 116]), (116, [84, 111]), (117, [65, 108, 108, 111, 119, 45, 69, 118, 101, 110, 116, 115]), (118, [86, 105, 97]), (120, [83, 101, 115, 115, 105, 111, 110, 45, 69, 120, 112, 105, 114, 101, 115])]
def longL (c : Int) : List Int := ((LONGS.find? (fun q => q.1 == c)).map (·.2)).getD []
def canonT (xs : List Int) : List Int := if xs.length = 1 ∧ longL (lowC (xs.getD 0 0)) ≠ [] then longL (lowC (xs.getD 0 0)) else (SPECIALS.find? (fun s => lowS s == lowS xs)).getD (capL xs)
/-- The canonical name. -/
def canonL (xs : List Int) : Option (List Int) := if isToken xs = true ∧ xs.length ≤ 64 then some (canonT xs) else none
def canonV : Option (List Int) → Value
  | none => .tuple #[.string ⟨#[]⟩, .int .u8 5]
  | some x => .tuple #[.string (strOfNums x), .int .u8 0]
theorem SPECIALS_by : ∀ s ∈ SPECIALS, By s := by unfold By; decide
theorem LONGS_by : ∀ s ∈ LONGS, By s.2 := by unfold By; decide
theorem longL_by (c : Int) : By (longL c) := by
  unfold longL
  cases h : LONGS.find? (fun q => q.1 == c) with
  | none => exact fun x hx => by cases hx
  | some q => exact LONGS_by q (List.mem_of_find?_eq_some h)
theorem canonT_by {xs : List Int} (h : By xs) : By (canonT xs) := by
  unfold canonT
  split
  · exact longL_by _
  · cases hs : SPECIALS.find? (fun s => lowS s == lowS xs) with
    | none => exact capL_by h
    | some q => exact SPECIALS_by q (List.mem_of_find?_eq_some hs)
end Go.Proofs.YtcnkjgjimcddiaaGreatDoor
namespace Go.Proofs.YtcnkjgjimcddiaaGreatDoor
open Go.RowKit

theorem ret_u8 {a b : Int} (h : a = b) : Ending.returned (.int .u8 a) = .returned (.int .u8 b) := by rw [h]
theorem lowbyte_any (c : Int) (w : World) (h0 : 0 ≤ c) (h1 : c < 256) : Calls Tryz.prog 80 #[.int .u8 c] w fun e w' => e = .returned (.int .u8 (lowC c)) ∧ w = w' := by
  by_cases hr : 65 ≤ c ∧ c ≤ 90
  · have E := Lib.hid (show lowC c = c + 32 from if_pos hr)
    obtain ⟨h65, h90⟩ := hr
    have d1 : decide (65 ≤ c) = true := by simp [h65]
    have d2 : decide (c ≤ 90) = true := by simp [h90]
    go_enter Tryz.func80, Tryz.ntmps80
    go_wp2_with fail
    go_ret
    exact ⟨ret_u8 E.out.symm, rfl⟩
  · have E := Lib.hid (show lowC c = c from if_neg hr)
    have d0 : decide (65 ≤ c) = false ∨ (decide (65 ≤ c) = true ∧ decide (c ≤ 90) = false) := by simp; omega
    clear hr
    rcases d0 with d1 | ⟨d1, d2⟩
    all_goals
      go_enter Tryz.func80, Tryz.ntmps80
      go_wp2_with fail
      go_ret
      exact ⟨ret_u8 E.out.symm, rfl⟩
theorem upbyte_any (c : Int) (w : World) (h0 : 0 ≤ c) (h1 : c < 256) : Calls Tryz.prog 83 #[.int .u8 c] w fun e w' => e = .returned (.int .u8 (upC c)) ∧ w = w' := by
  by_cases hr : 97 ≤ c ∧ c ≤ 122
  · have E := Lib.hid (show upC c = c - 32 from if_pos hr)
    obtain ⟨h65, h90⟩ := hr
    have d1 : decide (97 ≤ c) = true := by simp [h65]
    have d2 : decide (c ≤ 122) = true := by simp [h90]
    go_enter Tryz.func83, Tryz.ntmps83
    go_wp2_with fail
    go_ret
    exact ⟨ret_u8 E.out.symm, rfl⟩
  · have E := Lib.hid (show upC c = c from if_neg hr)
    have d0 : decide (97 ≤ c) = false ∨ (decide (97 ≤ c) = true ∧ decide (c ≤ 122) = false) := by simp; omega
    clear hr
    rcases d0 with d1 | ⟨d1, d2⟩
    all_goals
      go_enter Tryz.func83, Tryz.ntmps83
      go_wp2_with fail
      go_ret
      exact ⟨ret_u8 E.out.symm, rfl⟩
theorem long_none {c : Int} (h : ∀ q ∈ LONGS, c ≠ q.1) : longL c = [] := by
  unfold longL
  rw [List.find?_eq_none.2 (fun q hq e => h q hq (beq_iff_eq.1 e).symm)]
  rfl
theorem longname_any (c : Int) (w : World) (h0 : 0 ≤ c) (h1 : c < 256) : Calls Tryz.prog 79 #[.int .u8 c] w fun e w' => e = .returned (.string (strOfNums (longL c))) ∧ w = w' := by
  rcases (show c = 98 ∨ c = 99 ∨ c = 101 ∨ c = 102 ∨ c = 105 ∨ c = 107 ∨ c = 108 ∨ c = 109 ∨ c = 111 ∨ c = 114 ∨ c = 115 ∨ c = 116 ∨ c = 117 ∨ c = 118 ∨ c = 120 ∨ (c ≠ 98 ∧ c ≠ 99 ∧ c ≠ 101 ∧ c ≠ 102 ∧ c ≠ 105 ∧ c ≠ 107 ∧ c ≠ 108 ∧ c ≠ 109 ∧ c ≠ 111 ∧ c ≠ 114 ∧ c ≠ 115 ∧ c ≠ 116 ∧ c ≠ 117 ∧ c ≠ 118 ∧ c ≠ 120) by omega) with
    rfl | rfl | rfl | rfl | rfl | rfl | rfl | rfl | rfl | rfl | rfl | rfl | rfl | rfl | rfl | ⟨n1, n2, n3, n4, n5, n6, n7, n8, n9, n10, n11, n12, n13, n14, n15⟩
  iterate 15
    · go_enter Tryz.func79, Tryz.ntmps79
      go_wp2_with fail
      go_ret
      exact ⟨rfl, rfl⟩
  have E := Lib.hid (long_none (c := c) (by
    intro q hq
    simp only [LONGS, List.mem_cons, List.not_mem_nil, or_false] at hq
    rcases hq with rfl | rfl | rfl | rfl | rfl | rfl | rfl | rfl | rfl | rfl | rfl | rfl | rfl | rfl | rfl <;> assumption))
  have e1 : (c == 98) = false := by simp [n1]
  have e2 : (c == 99) = false := by simp [n2]
  have e3 : (c == 101) = false := by simp [n3]
  have e4 : (c == 102) = false := by simp [n4]
  have e5 : (c == 105) = false := by simp [n5]
  have e6 : (c == 107) = false := by simp [n6]
  have e7 : (c == 108) = false := by simp [n7]
  have e8 : (c == 109) = false := by simp [n8]
  have e9 : (c == 111) = false := by simp [n9]
  have e10 : (c == 114) = false := by simp [n10]
  have e11 : (c == 115) = false := by simp [n11]
  have e12 : (c == 116) = false := by simp [n12]
  have e13 : (c == 117) = false := by simp [n13]
  have e14 : (c == 118) = false := by simp [n14]
  have e15 : (c == 120) = false := by simp [n15]
  clear n1 n2 n3 n4 n5 n6 n7 n8 n9 n10 n11 n12 n13 n14 n15
  go_enter Tryz.func79, Tryz.ntmps79
  go_wp2_with fail
  go_ret
  exact ⟨by rw [E.out]; rfl, rfl⟩
set_option maxRecDepth 100000 in
theorem eachlow_any (s : ByteArray) (w : World) (hM : s.size ≤ 4000000) :
    Calls Tryz.prog 81 #[.string s, .func (.func 80) #[] #[]] w fun e w' => e = .returned (.string (strOfNums (lowS (byteL s)))) ∧ Below w.heap.size w w' := by
  have HB := Lib.hid (byteL_by s)
  have HL := Lib.hid (byteL_len s)
  go_enter Tryz.func81, Tryz.ntmps81
  go_wp2_with (with_reducible refine wpList_bytesW rfl _ rfl s rfl ?_)
  intro cap w1 hcap R1 B1
  generalize hX : byteL s = X at *
  have HX := Lib.hid hX
  clear hX
  go_wp2_with fail
  go_loopw [12] (fun v wr => LWR w w1 X v wr) (fun v _ => s.size - (intOf v).toNat)
  case atStart => exact ⟨0, Nat.zero_le _, rfl, Lib.hid ⟨R1.out, B1.out⟩⟩
  case round =>
    obtain ⟨k, hk, rfl, H⟩ := hrel
    rw [HL.out] at hk
    by_cases hlt : k < s.size
    · have hlt' : k < X.length := by rw [HL.out]; exact hlt
      have hd : decide (k < s.size) = true := by simp; omega
      have hcell := H.out.1.c k _ (lowK_at hlt')
      have hfz := H.out.1.f k (by rw [lowK_len]; exact hlt')
      have hx2 := HB.out _ (getD_mem hlt')
      have ST := Lib.hid (show BR (wr.setCell ⟨w.heap.size, k, none⟩ (.int .u8 (lowC (X.getD k 0)))) w.heap.size (lowK X (k + 1)) by
        rw [← lowK_set hlt']
        exact H.out.1.set (by rw [lowK_len]; exact hlt') _)
      clear hlt'
      generalize X.getD k 0 = x at *
      have x0 := hx2.1
      have x1 := hx2.2
      clear hx2
      go_wp2_with fail
      refine (lowbyte_any x _ x0 x1).mono ?_
      rintro e w' ⟨rfl, rfl⟩
      go_wp2_with fail
      go_roundw
      case rel => exact ⟨k + 1, by rw [HL.out]; omega, by go_num, Lib.hid ⟨ST.out, H.out.2.setCell (Nat.le_refl _) _⟩⟩
      case measure => simp [intOf]; omega
    · obtain rfl : k = s.size := by omega
      have HR := H.out.1
      rw [lowK_all (by rw [HL.out]; exact Nat.le_refl _)] at HR
      have cv := HR.conv s.size cap (by rw [lowS_len]; exact HL.out)
      clear HR
      go_wp2_with fail
      go_ret
      exact ⟨by rw [HX.out]; rfl, H.out.2⟩
/-- The closure's call: its letter changed, its cell told whether the next one begins a word. -/
theorem cap_call (c : Int) (b : Bool) (cb : Nat) (w : World) (h0 : 0 ≤ c) (h1 : c < 256) (hc : w.cell? ⟨cb, 0, none⟩ = some (.bool b)) (hf : w.frozen? ⟨cb, 0, none⟩ = false) :
    Calls Tryz.prog 82 #[.int .u8 c, .pointer (some ⟨cb, 0, none⟩)] w fun e w' => e = .returned (.int .u8 (capC b c)) ∧ w.setCell ⟨cb, 0, none⟩ (.bool (capC b c == 45)) = w' := by
  cases b with
  | true =>
    have E := Lib.hid (show capC true c = upC c from rfl)
    go_enter Tryz.func82, Tryz.ntmps82
    go_wp2_with fail
    refine (upbyte_any c _ h0 h1).mono ?_
    rintro e w' ⟨rfl, rfl⟩
    generalize upC c = d at *
    go_wp2_with fail
    go_ret
    exact ⟨ret_u8 E.out.symm, by rw [E.out]⟩
  | false =>
    have E := Lib.hid (show capC false c = lowC c from rfl)
    go_enter Tryz.func82, Tryz.ntmps82
    go_wp2_with fail
    refine (lowbyte_any c _ h0 h1).mono ?_
    rintro e w' ⟨rfl, rfl⟩
    generalize lowC c = d at *
    go_wp2_with fail
    go_ret
    exact ⟨ret_u8 E.out.symm, by rw [E.out]⟩
def capK (xs : List Int) (k : Nat) : List Int := capL (xs.take k) ++ xs.drop k
theorem capK_len (xs : List Int) (k : Nat) : (capK xs k).length = xs.length := by
  unfold capK; rw [List.length_append, capL_len, List.length_take, List.length_drop]; omega
theorem capK_all {xs : List Int} {k : Nat} (h : xs.length ≤ k) : capK xs k = capL xs := by
  unfold capK; rw [List.take_of_length_le h, List.drop_of_length_le h, List.append_nil]
theorem capK_at {xs : List Int} {k : Nat} (h : k < xs.length) : (capK xs k)[k]? = some (xs.getD k 0) := by
  unfold capK
  rw [List.getElem?_append_right (by rw [capL_len, List.length_take]; omega), capL_len, List.length_take, show k - min k xs.length = 0 by omega, drop_consI xs h]
  rfl
theorem capK_set {xs : List Int} {k : Nat} (h : k < xs.length) : (capK xs k).set k (capC (capF (xs.take k)).2 (xs.getD k 0)) = capK xs (k + 1) := by
  unfold capK
  rw [List.set_append_right _ _ (by rw [capL_len, List.length_take]; omega), capL_len, List.length_take, show k - min k xs.length = 0 by omega, drop_consI xs h, List.set_cons_zero, take_snocI xs h]
  unfold capL
  rw [capF_snoc]
  simp [capStep]
theorem capF_next {xs : List Int} {k : Nat} (h : k < xs.length) : (capF (xs.take (k + 1))).2 = (capC (capF (xs.take k)).2 (xs.getD k 0) == 45) := by rw [take_snocI xs h, capF_snoc]; rfl
theorem grown_set {w wr : World} {r : Option Nat} {p : Addr} {u : Value} (h : w.grownBy wr r) (hp : r = some p.block ∨ w.heap.size ≤ p.block) : w.grownBy (wr.setCell p u) r := by
  refine ⟨h.os, h.tape, h.output, by simpa [World.setCell] using h.size, fun k hk hr => ?_⟩
  have hne : k ≠ p.block := by
    rintro rfl
    rcases hp with h1 | h1
    · exact hr h1.symm
    · exact absurd h1 (Nat.not_le.2 hk)
  rw [Below.heap_setCell wr p u k hne]
  exact h.block k hk hr
theorem grown_below {w w1 : World} (r : Option Nat) (h : Below w.heap.size w w1) : w.grownBy w1 r := ⟨h.os, h.tape, h.output, h.size, fun k hk _ => h.block k hk⟩
theorem BR.other {w : World} {b : Nat} {xs : List Int} (h : BR w b xs) {p : Addr} (hp : p.block ≠ b) (u : Value) : BR (w.setCell p u) b xs :=
  ⟨by simpa [World.setCell] using h.lt, fun j x hx => by
    rw [World.cell?_setCell_other _ _ _ _ (by intro e; apply hp; rw [e])]
    exact h.c j x hx, fun j hj => by rw [World.frozen?_setCell]; exact h.f j hj⟩
structure CPX (w : World) (cb : Nat) (xs : List Int) (k : Nat) (wr : World) : Prop where
  r : BR wr w.heap.size (capK xs k)
  c : wr.cell? ⟨cb, 0, none⟩ = some (.bool (capF (xs.take k)).2)
  f : wr.frozen? ⟨cb, 0, none⟩ = false
  g : w.grownBy wr (some cb)
theorem CPX.step {w wr : World} {cb : Nat} {xs : List Int} {k : Nat} (H : CPX w cb xs k wr) (hk : k < xs.length) (hcb : cb < w.heap.size) :
    CPX w cb xs (k + 1) ((wr.setCell ⟨cb, 0, none⟩ (.bool (capC (capF (xs.take k)).2 (xs.getD k 0) == 45))).setCell ⟨w.heap.size, k, none⟩ (.int .u8 (capC (capF (xs.take k)).2 (xs.getD k 0)))) := by
  refine ⟨?_, ?_, ?_, ?_⟩
  · rw [← capK_set hk]
    exact (H.r.other (p := ⟨cb, 0, none⟩) (Nat.ne_of_lt hcb) _).set (by rw [capK_len]; exact hk) _
  · rw [World.cell?_setCell_other _ _ _ _ (by intro e; injection e with e1; exact absurd e1 (Nat.ne_of_gt hcb)), capF_next hk]
    exact World.cell?_setCell_same _ _ _ H.c
  · rw [World.frozen?_setCell, World.frozen?_setCell]
    exact H.f
  · exact grown_set (grown_set H.g (.inl rfl)) (.inr (Nat.le_refl _))
def CPR (w : World) (cb : Nat) (xs : List Int) (v : Value) (wr : World) : Prop := ∃ k : Nat, k ≤ xs.length ∧ v = .int .i64 k ∧ Hid (CPX w cb xs k wr)
set_option maxRecDepth 100000 in
theorem eachcap_any (s : ByteArray) (cb : Nat) (w : World) (hM : s.size ≤ 4000000) (hcb : cb < w.heap.size) (hc : w.cell? ⟨cb, 0, none⟩ = some (.bool true)) (hf : w.frozen? ⟨cb, 0, none⟩ = false) :
    Calls Tryz.prog 81 #[.string s, .func (.func 82) #[] #[.pointer (some ⟨cb, 0, none⟩)]] w fun e w' => e = .returned (.string (strOfNums (capL (byteL s)))) ∧ w.grownBy w' (some cb) := by
  have HB := Lib.hid (byteL_by s)
  have HL := Lib.hid (byteL_len s)
  have HC := Lib.hid hc; have HF := Lib.hid hf
  clear hc hf
  go_enter Tryz.func81, Tryz.ntmps81
  go_wp2_with (with_reducible refine wpList_bytesW rfl _ rfl s rfl ?_)
  intro cap w1 hcap R1 B1
  generalize hX : byteL s = X at *
  have HX := Lib.hid hX
  clear hX
  have S0 := Lib.hid (show CPX w cb X 0 w1 from ⟨R1.out, (B1.out.cell (p := ⟨cb, 0, none⟩) hcb).trans HC.out, (B1.out.frozen (p := ⟨cb, 0, none⟩) hcb).trans HF.out, grown_below _ B1.out⟩)
  clear R1 B1 HC HF
  go_wp2_with fail
  go_loopw [12] (fun v wr => CPR w cb X v wr) (fun v _ => s.size - (intOf v).toNat)
  case atStart => exact ⟨0, Nat.zero_le _, rfl, S0⟩
  case round =>
    clear S0
    obtain ⟨k, hk, rfl, H⟩ := hrel
    rw [HL.out] at hk
    by_cases hlt : k < s.size
    · have hlt' : k < X.length := by rw [HL.out]; exact hlt
      have hd : decide (k < s.size) = true := by simp; omega
      have hcell := H.out.r.c k _ (capK_at hlt')
      have hfz := H.out.r.f k (by rw [capK_len]; exact hlt')
      have hx2 := HB.out _ (getD_mem hlt')
      have ST := Lib.hid (H.out.step hlt' hcb)
      have kc := H.out.c
      have kf := H.out.f
      have wl := H.out.r.lt
      have ncell := H.out.r.other (p := ⟨cb, 0, none⟩) (Nat.ne_of_lt hcb) (.bool (capC (capF (X.take k)).2 (X.getD k 0) == 45))
      have nc := ncell.c k _ (capK_at hlt')
      have nf := ncell.f k (by rw [capK_len]; exact hlt')
      clear hlt' ncell
      generalize X.getD k 0 = x at *
      generalize (capF (X.take k)).2 = b at *
      have x0 := hx2.1
      have x1 := hx2.2
      clear hx2
      have DB := Lib.hid (capC_by b ⟨x0, x1⟩)
      go_wp2_with fail
      refine (cap_call x b cb _ x0 x1 kc kf).mono ?_
      rintro e w' ⟨rfl, rfl⟩
      clear hcell hfz kc kf
      generalize capC b x = d at *
      go_wp2_with fail
      go_roundw
      case rel => exact ⟨k + 1, by rw [HL.out]; omega, by go_num, ST⟩
      case measure => simp [intOf]; omega
    · obtain rfl : k = s.size := by omega
      have HR := H.out.r
      rw [capK_all (by rw [HL.out]; exact Nat.le_refl _)] at HR
      have cv := HR.conv s.size cap (by rw [capL_len]; exact HL.out)
      clear HR
      go_wp2_with fail
      go_ret
      exact ⟨by rw [HX.out]; rfl, H.out.g⟩
end Go.Proofs.YtcnkjgjimcddiaaGreatDoor
namespace Go.Proofs.YtcnkjgjimcddiaaGreatDoor
open Go.RowKit

def SPV : List Value := SPECIALS.map fun s => .string (strOfNums s)
/-- The special names lie where the program laid them. -/
def SC (w : World) : Prop := 0 < w.heap.size ∧ w.rangeAt 0 0 SPV
theorem SC.below {w w1 : World} (h : SC w) (hb : Below w.heap.size w w1) : SC w1 := ⟨Nat.lt_of_lt_of_le h.1 hb.size, fun j v hv => (hb.cell (p := ⟨0, 0 + j, none⟩) h.1).trans (h.2 j v hv)⟩
theorem infoSp : (Tryz.prog.info? 123).map (·.size) = some SPV.length := by kernel_rfl
theorem sp_idx {k : Nat} (hk : k < 7) (w : World) : (Instr.index 123 (.agg SPV.toArray) (.int .i64 k)).run Tryz.prog w = .ok (.string (strOfNums (SPECIALS.getD k []))) w := by
  rcases k with _ | _ | _ | _ | _ | _ | _ | k
  all_goals first | omega | kernel_rfl
theorem sp_by {k : Nat} (hk : k < 7) : By (SPECIALS.getD k []) ∧ (SPECIALS.getD k []).length ≤ 20 := by
  have h1 : SPECIALS.getD k [] ∈ SPECIALS := by
    rw [List.getD_eq_getElem?_getD, List.getElem?_eq_getElem (show k < SPECIALS.length from hk)]
    exact List.getElem_mem _
  exact ⟨SPECIALS_by _ h1, (show ∀ s ∈ SPECIALS, s.length ≤ 20 by decide) _ h1⟩
theorem find_hit {α : Type} {p : α → Bool} {d : α} : ∀ {l : List α} {k : Nat}, k < l.length → (∀ j, j < k → p (l.getD j d) = false) → p (l.getD k d) = true → l.find? p = some (l.getD k d)
  | [], k, hk, _, _ => absurd hk (by simp)
  | x :: l, 0, _, _, h => by
    rw [List.find?_cons]
    rw [show (x :: l).getD 0 d = x from rfl] at h ⊢
    rw [h]
  | x :: l, k + 1, hk, hn, h => by
    have h0 := hn 0 (Nat.succ_pos k)
    rw [show (x :: l).getD 0 d = x from rfl] at h0
    rw [List.find?_cons, h0]
    exact find_hit (l := l) (k := k) (by simpa using hk) (fun j hj => by have := hn (j + 1) (by omega); rwa [List.getD_cons_succ] at this) (by rwa [List.getD_cons_succ] at h)
theorem find_miss {α : Type} {p : α → Bool} {d : α} {l : List α} (h : ∀ j, j < l.length → p (l.getD j d) = false) : l.find? p = none := by
  rw [List.find?_eq_none]
  intro x hx
  obtain ⟨j, hj, rfl⟩ := List.getElem_of_mem hx
  have := h j hj
  rw [List.getD_eq_getElem?_getD, List.getElem?_eq_getElem hj] at this
  simpa using this
theorem canonV_none {X : Option (List Int)} (h : X = none) : canonV X = .tuple #[.string ⟨#[]⟩, .int .u8 5] := by rw [h]; rfl
theorem canonV_some {X : Option (List Int)} {x : List Int} (h : X = some x) : canonV X = .tuple #[.string (strOfNums x), .int .u8 0] := by rw [h]; rfl
set_option maxRecDepth 100000 in
set_option maxHeartbeats 1000000 in
theorem nmcanon_any (s : ByteArray) (w : World) (hM : s.size ≤ 4000000) (hS : SC w) :
    Calls Tryz.prog 61 #[.string s] w fun e w' => e = .returned (canonV (canonL (byteL s))) ∧ Below w.heap.size w w' := by
  have HB := Lib.hid (byteL_by s)
  have HL := Lib.hid (byteL_len s)
  have HS := Lib.hid hS
  have CN := Lib.hid (fun (h : isToken (byteL s) = false ∨ 64 < s.size) => show canonL (byteL s) = none by
    unfold canonL
    rw [if_neg]
    rintro ⟨h1, h2⟩
    rw [byteL_len] at h2
    rcases h with h | h
    · rw [h] at h1; cases h1
    · omega)
  have CY := Lib.hid (fun (h : isToken (byteL s) = true) (h2 : s.size ≤ 64) => show canonL (byteL s) = some (canonT (byteL s)) by
    unfold canonL
    rw [if_pos ⟨h, by rw [byteL_len]; exact h2⟩])
  have CT := Lib.hid (show canonT (byteL s) = if (byteL s).length = 1 ∧ longL (lowC ((byteL s).getD 0 0)) ≠ [] then longL (lowC ((byteL s).getD 0 0)) else (SPECIALS.find? (fun q => lowS q == lowS (byteL s))).getD (capL (byteL s)) from rfl)
  have EL := Lib.hid (fun (w : World) => eachlow_any s w hM)
  have EC := Lib.hid (fun (cb : Nat) (w : World) => eachcap_any s cb w hM)
  have IX := Lib.hid (fun (h : 0 < s.size) (w : World) => idx_str s (i := 0) h (z := 0) rfl w)
  clear hS
  go_enter Tryz.func61, Tryz.ntmps61
  go_wp2_with fail
  refine (lexToken_any s _ (by omega)).mono ?_
  rintro e w1 ⟨rfl, hb1⟩
  have B1 := Lib.hid hb1
  clear hb1
  cases ht : isToken (byteL s) with
  | false =>
    have E := Lib.hid (canonV_none (CN.out (.inl ht)))
    clear ht
    go_wp2_with fail
    go_ret2
    exact ⟨by rw [E.out]; rfl, B1.out⟩
  | true =>
    by_cases h64 : 64 < s.size
    · have E := Lib.hid (canonV_none (CN.out (.inr h64)))
      have d1 : decide ((64 : Int) < (s.size : Int)) = true := by simp; omega
      clear ht h64
      go_wp2_with fail
      go_ret2
      exact ⟨by rw [E.out]; rfl, B1.out⟩
    · have d1 : decide ((64 : Int) < (s.size : Int)) = false := by simp; omega
      have E := Lib.hid (canonV_some (CY.out ht (by omega)))
      clear ht h64 CN CY
      have XB := Lib.hid HB.out
      clear HB
      generalize hX : byteL s = X at *
      have HX := Lib.hid hX
      clear hX
      -- the walk
      have REST0 := Lib.hid (fun (h : ¬ (X.length = 1 ∧ longL (lowC (X.getD 0 0)) ≠ [])) => show canonT X = (SPECIALS.find? (fun q => lowS q == lowS X)).getD (capL X) by rw [CT.out, if_neg h])
      have LET := Lib.hid (fun (h : X.length = 1 ∧ longL (lowC (X.getD 0 0)) ≠ []) => show canonT X = longL (lowC (X.getD 0 0)) by rw [CT.out, if_pos h])
      clear CT
      by_cases h1 : s.size = 1
      · have e1 : ((s.size : Int) == 1) = true := by simp [h1]
        have dx := IX.out (by omega)
        have hx := XB.out _ (getD_mem (l := X) (i := 0) (by rw [HL.out]; omega))
        have L1 := Lib.hid (show X.length = 1 by rw [HL.out]; exact h1)
        have LB := Lib.hid (lowC_by hx)
        clear h1
        generalize X.getD 0 0 = x at *
        go_wp2_with fail
        refine (lowbyte_any x _ hx.1 hx.2).mono ?_
        rintro e w' ⟨rfl, rfl⟩
        generalize lowC x = y at *
        go_wp2_with fail
        refine (longname_any y _ LB.out.1 LB.out.2).mono ?_
        rintro e w' ⟨rfl, rfl⟩
        have LY := Lib.hid (longL_by y)
        clear e1 dx
        by_cases hy : longL y = []
        · have REST := Lib.hid (REST0.out (fun h => h.2 hy))
          rw [hy, show strOfNums [] = ⟨#[]⟩ from rfl]
          clear hy
          go_wp2_with fail
          refine (EL.out _).mono ?_
          rintro e w2 ⟨rfl, hb2⟩
          have B2 := Lib.hid (bthen B1.out hb2)
          clear hb2
          have SP := Lib.hid ((HS.out.below B2.out).2)
          go_wp2_with (with_reducible refine wpList_load_mid rfl 123 (.global 0) rfl 0 0 rfl SPV _ SP.out Tryz.underlying123 rfl infoSp ?_)
          go_loopw [30] (fun v wr => ∃ k : Nat, k ≤ 7 ∧ v = .int .i64 k ∧ Hid (Below w.heap.size w wr ∧ ∀ j, j < k → (lowS (SPECIALS.getD j []) == lowS X) = false)) (fun v _ => 7 - (intOf v).toNat)
          case atStart => exact ⟨0, by omega, rfl, Lib.hid ⟨B2.out, fun j hj => absurd hj (by omega)⟩⟩
          case round =>
            clear SP B2
            obtain ⟨k, hk, rfl, H⟩ := hrel
            by_cases hlt : k < 7
            · have hd : decide ((k : Int) < 7) = true := by simp; omega
              have dx := fun w => sp_idx hlt w
              obtain ⟨sb1, sb2⟩ := sp_by hlt
              have SB := Lib.hid sb1
              have SM := Lib.hid (show (strOfNums (SPECIALS.getD k [])).size ≤ 4000000 by rw [num_size]; omega)
              have HIT := Lib.hid (fun (h : (lowS (SPECIALS.getD k []) == lowS X) = true) => show canonT X = SPECIALS.getD k [] by
                rw [REST.out, find_hit (d := []) (show k < SPECIALS.length from hlt) H.out.2 h]; rfl)
              have NXT := Lib.hid (fun (h : (lowS (SPECIALS.getD k []) == lowS X) = false) (j : Nat) (hj : j < k + 1) => show (lowS (SPECIALS.getD j []) == lowS X) = false by
                rcases (show j < k ∨ j = k by omega) with h1 | rfl
                · exact H.out.2 j h1
                · exact h)
              have QE := Lib.hid (toList_beq (lowS_by sb1) (lowS_by XB.out))
              clear sb1 sb2
              generalize SPECIALS.getD k [] = q at *
              go_wp2_with fail
              refine (eachlow_any _ _ SM.out).mono ?_
              rintro e w3 ⟨rfl, hb3⟩
              have B3 := Lib.hid (bthen H.out.1 hb3)
              clear hb3 dx
              rw [byteL_str SB.out]
              cases hc : (lowS q == lowS X) with
              | true =>
                have hq := QE.out.trans hc
                have E2 := Lib.hid (HIT.out hc)
                clear hc
                go_wp2_with fail
                go_ret2
                exact ⟨by rw [HX.out, E.out, E2.out]; rfl, B3.out⟩
              | false =>
                have hq := QE.out.trans hc
                have N2 := Lib.hid (NXT.out hc)
                clear hc
                go_wp2_with fail
                go_roundw
                case rel => exact ⟨k + 1, by omega, by go_num, Lib.hid ⟨B3.out, N2.out⟩⟩
                case measure => simp [intOf]; omega
            · obtain rfl : k = 7 := by omega
              have E2 := Lib.hid (show canonT X = capL X by rw [REST.out, find_miss (l := SPECIALS) (d := []) (fun j hj => H.out.2 j hj)]; rfl)
              have R := Lib.hid (Row.new wr 4 [.bool true])
              have BA := Lib.hid (H.out.1.alloc H.out.1.size (.cells #[.bool true] 4))
              have SZ := Lib.hid H.out.1.size
              rw [show ((7 : Nat) : Int) = (7 : Int) from rfl]
              clear H
              go_wp2_with fail
              refine (EC.out wr.heap.size _ R.out.lt (R.out.cell 0) (R.out.frozen 0)).mono ?_
              rintro e w4 ⟨rfl, hg⟩
              have B4 := Lib.hid (BA.out.grown hg BA.out.size (fun k hk => by cases hk; exact SZ.out))
              clear hg
              go_wp2_with fail
              go_ret2
              exact ⟨by rw [HX.out, E.out, E2.out]; rfl, B4.out⟩
        · have E2 := Lib.hid (LET.out ⟨L1.out, hy⟩)
          have ob : ((strOfNums (longL y)).toList == ([] : List UInt8)) = false := by
            rw [Bool.eq_false_iff]; intro h; apply hy
            have h2 : strOfNums (longL y) = ⟨#[]⟩ := toList_inj.1 ((by simpa using h : (strOfNums (longL y)).toList = []).trans (by rw [ByteArray.toList_eq]))
            have h3 := congrArg byteL h2
            rw [byteL_str LY.out] at h3
            exact h3
          clear hy
          generalize longL y = z at *
          go_wp2_with fail
          go_ret2
          exact ⟨by rw [HX.out, E.out, E2.out]; rfl, B1.out⟩
      · have e1 : ((s.size : Int) == 1) = false := by rw [beq_eq_false_iff_ne]; omega
        have REST := Lib.hid (REST0.out (fun h => h1 (by rw [← HL.out]; exact h.1)))
        clear h1
        go_wp2_with fail
        refine (EL.out _).mono ?_
        rintro e w2 ⟨rfl, hb2⟩
        have B2 := Lib.hid (bthen B1.out hb2)
        clear hb2
        have SP := Lib.hid ((HS.out.below B2.out).2)
        go_wp2_with (with_reducible refine wpList_load_mid rfl 123 (.global 0) rfl 0 0 rfl SPV _ SP.out Tryz.underlying123 rfl infoSp ?_)
        go_loopw [30] (fun v wr => ∃ k : Nat, k ≤ 7 ∧ v = .int .i64 k ∧ Hid (Below w.heap.size w wr ∧ ∀ j, j < k → (lowS (SPECIALS.getD j []) == lowS X) = false)) (fun v _ => 7 - (intOf v).toNat)
        case atStart => exact ⟨0, by omega, rfl, Lib.hid ⟨B2.out, fun j hj => absurd hj (by omega)⟩⟩
        case round =>
          clear SP B2
          obtain ⟨k, hk, rfl, H⟩ := hrel
          by_cases hlt : k < 7
          · have hd : decide ((k : Int) < 7) = true := by simp; omega
            have dx := fun w => sp_idx hlt w
            obtain ⟨sb1, sb2⟩ := sp_by hlt
            have SB := Lib.hid sb1
            have SM := Lib.hid (show (strOfNums (SPECIALS.getD k [])).size ≤ 4000000 by rw [num_size]; omega)
            have HIT := Lib.hid (fun (h : (lowS (SPECIALS.getD k []) == lowS X) = true) => show canonT X = SPECIALS.getD k [] by
              rw [REST.out, find_hit (d := []) (show k < SPECIALS.length from hlt) H.out.2 h]; rfl)
            have NXT := Lib.hid (fun (h : (lowS (SPECIALS.getD k []) == lowS X) = false) (j : Nat) (hj : j < k + 1) => show (lowS (SPECIALS.getD j []) == lowS X) = false by
              rcases (show j < k ∨ j = k by omega) with h1 | rfl
              · exact H.out.2 j h1
              · exact h)
            have QE := Lib.hid (toList_beq (lowS_by sb1) (lowS_by XB.out))
            clear sb1 sb2
            generalize SPECIALS.getD k [] = q at *
            go_wp2_with fail
            refine (eachlow_any _ _ SM.out).mono ?_
            rintro e w3 ⟨rfl, hb3⟩
            have B3 := Lib.hid (bthen H.out.1 hb3)
            clear hb3 dx
            rw [byteL_str SB.out]
            cases hc : (lowS q == lowS X) with
            | true =>
              have hq := QE.out.trans hc
              have E2 := Lib.hid (HIT.out hc)
              clear hc
              go_wp2_with fail
              go_ret2
              exact ⟨by rw [HX.out, E.out, E2.out]; rfl, B3.out⟩
            | false =>
              have hq := QE.out.trans hc
              have N2 := Lib.hid (NXT.out hc)
              clear hc
              go_wp2_with fail
              go_roundw
              case rel => exact ⟨k + 1, by omega, by go_num, Lib.hid ⟨B3.out, N2.out⟩⟩
              case measure => simp [intOf]; omega
          · obtain rfl : k = 7 := by omega
            have E2 := Lib.hid (show canonT X = capL X by rw [REST.out, find_miss (l := SPECIALS) (d := []) (fun j hj => H.out.2 j hj)]; rfl)
            have R := Lib.hid (Row.new wr 4 [.bool true])
            have BA := Lib.hid (H.out.1.alloc H.out.1.size (.cells #[.bool true] 4))
            have SZ := Lib.hid H.out.1.size
            rw [show ((7 : Nat) : Int) = (7 : Int) from rfl]
            clear H
            go_wp2_with fail
            refine (EC.out wr.heap.size _ R.out.lt (R.out.cell 0) (R.out.frozen 0)).mono ?_
            rintro e w4 ⟨rfl, hg⟩
            have B4 := Lib.hid (BA.out.grown hg BA.out.size (fun k hk => by cases hk; exact SZ.out))
            clear hg
            go_wp2_with fail
            go_ret2
            exact ⟨by rw [HX.out, E.out, E2.out]; rfl, B4.out⟩
end Go.Proofs.YtcnkjgjimcddiaaGreatDoor
