/- The library's contracts in my words: TrimLeft at "0", Cut at two colons, Index at a byte, IndexAny. Plain laws: what is escaped is read back; what is read is clean. -/
import Derived.Test.YthfonniieaiocaaGreatDoorLk
import Derived.Test.YthfonniieaiocaaGreatDoorAc
set_option linter.unusedVariables false
set_option linter.unusedSimpArgs false
namespace Go.Proofs.YthfonniieaiocaaGreatDoor
open Go.RowKit

theorem bl_dropOne (c : UInt8) : ∀ l : List UInt8, bl (l.dropWhile (· == c)) = (bl l).dropWhile (· == (c.toNat : Int))
  | [] => rfl
  | b :: l => by
    rw [show bl (b :: l) = (b.toNat : Int) :: bl l from rfl, List.dropWhile_cons, List.dropWhile_cons]
    by_cases h : b = c
    · subst h
      rw [if_pos (by simp), if_pos (by simp), bl_dropOne _ l]
    · rw [if_neg (by simpa using h), if_neg (by
        rw [beq_iff_eq]
        exact fun e => h (UInt8.toNat_inj.1 (by omega)))]
      rfl
theorem trim0_any (s : ByteArray) (w : World) : Calls Tryz.prog 161 #[.string s, .string ⟨#[48]⟩] w fun e w' => e = .returned (.string (strOfNums ((byteL s).dropWhile (· == 48)))) ∧ w = w' :=
  (Tryz.strings_TrimLeft_one s 48 (by decide) w).mono fun e w' ⟨he, hw⟩ => ⟨by rw [he, show Lib.trimLeftB s.data.toList 48 = s.data.toList.dropWhile (· == 48) from rfl, mk_str (bl_dropOne 48 s.data.toList)]; rfl, hw.symm⟩
theorem dbl_none {l : List UInt8} (h : dblL (bl l) = none) : Lib.index l [58, 58] = -1 := by
  induction l with
  | nil => rfl
  | cons b l ih =>
    cases l with
    | nil => rw [Lib.index]; simp [Lib.index]
    | cons d r =>
      rw [show bl (b :: d :: r) = (b.toNat : Int) :: (d.toNat : Int) :: bl r from rfl, dblL] at h
      split at h
      · cases h
      · rename_i hn
        have h2 : dblL (bl (d :: r)) = none := by
          rw [show bl (d :: r) = (d.toNat : Int) :: bl r from rfl]
          cases hq : dblL ((d.toNat : Int) :: bl r) with
          | none => rfl
          | some q => rw [hq] at h; cases h
        have hp : ([58, 58] : List UInt8).isPrefixOf (b :: d :: r) = false := by
          rw [Bool.eq_false_iff]
          intro hp
          simp [List.isPrefixOf] at hp
          exact hn ⟨by rw [← hp.1]; rfl, by rw [← hp.2]; rfl⟩
        rw [Lib.index, hp, ih h2]
        rfl
theorem dbl_some : ∀ {l : List UInt8} {p : List Int × List Int}, dblL (bl l) = some p → 0 ≤ Lib.index l [58, 58] ∧ bl (l.take (Lib.index l [58, 58]).toNat) = p.1 ∧ bl (l.drop ((Lib.index l [58, 58]).toNat + 2)) = p.2
  | [], p, h => by cases h
  | [b], p, h => by cases h
  | b :: d :: r, p, h => by
    rw [show bl (b :: d :: r) = (b.toNat : Int) :: (d.toNat : Int) :: bl r from rfl, dblL] at h
    split at h
    · rename_i hn
      injection h with h
      subst h
      have hb : b = 58 := UInt8.toNat_inj.1 (by have := hn.1; show b.toNat = 58; omega)
      have hd : d = 58 := UInt8.toNat_inj.1 (by have := hn.2; show d.toNat = 58; omega)
      subst hb; subst hd
      have hp : ([58, 58] : List UInt8).isPrefixOf (58 :: 58 :: r) = true := by simp [List.isPrefixOf]
      rw [Lib.index, hp, if_pos rfl]
      exact ⟨by decide, rfl, rfl⟩
    · rename_i hn
      cases hq : dblL (bl (d :: r)) with
      | none =>
        rw [show ((d.toNat : Int) :: bl r) = bl (d :: r) from rfl, hq] at h
        cases h
      | some q =>
        rw [show ((d.toNat : Int) :: bl r) = bl (d :: r) from rfl, hq] at h
        injection h with h
        subst h
        obtain ⟨h1, h2, h3⟩ := dbl_some hq
        have hp : ([58, 58] : List UInt8).isPrefixOf (b :: d :: r) = false := by
          rw [Bool.eq_false_iff]
          intro hp
          simp [List.isPrefixOf] at hp
          exact hn ⟨by rw [← hp.1]; rfl, by rw [← hp.2]; rfl⟩
        have e : Lib.index (b :: d :: r) [58, 58] = Lib.index (d :: r) [58, 58] + 1 := by
          rw [Lib.index, hp]
          rw [if_neg (by decide), if_neg (by simp; omega)]
        rw [e, show (Lib.index (d :: r) [58, 58] + 1).toNat = (Lib.index (d :: r) [58, 58]).toNat + 1 by omega]
        refine ⟨by omega, ?_, ?_⟩
        · rw [List.take_succ_cons, show bl (b :: (d :: r).take (Lib.index (d :: r) [58, 58]).toNat) = (b.toNat : Int) :: bl ((d :: r).take (Lib.index (d :: r) [58, 58]).toNat) from rfl, h2]
        · rw [show (Lib.index (d :: r) [58, 58]).toNat + 1 + 2 = (Lib.index (d :: r) [58, 58]).toNat + 2 + 1 by omega, List.drop_succ_cons, h3]
def cutV (s : ByteArray) : Value := match dblL (byteL s) with
  | none => .tuple #[.string s, .string ⟨#[]⟩, .bool false]
  | some p => .tuple #[.string (strOfNums p.1), .string (strOfNums p.2), .bool true]
theorem below_drewZ {w : World} (n : Nat) : Below w.heap.size w (w.drewN n) := ⟨rfl, rfl, rfl, Nat.le_refl _, fun _ _ => rfl⟩
theorem cutdbl_any (s : ByteArray) (w : World) (hs : s.size ≤ 4000000) (hm : GM w) : Calls Tryz.prog 124 #[.string s, .string ⟨#[58, 58]⟩] w fun e w' => e = .returned (cutV s) ∧ Below w.heap.size w w' := by
  obtain ⟨_, m, hm⟩ := hm
  refine (Tryz.strings_Cut s ⟨#[58, 58]⟩ m w (by omega) hm).mono fun e w' ⟨he, n, hw⟩ => ⟨?_, by rw [hw]; exact below_drewZ n⟩
  rw [he]
  unfold cutV Lib.cut
  cases hq : dblL (byteL s) with
  | none =>
    have h := dbl_none (l := s.data.toList) hq
    rw [show (⟨#[58, 58]⟩ : ByteArray).data.toList = [58, 58] from rfl, h, if_neg (by decide)]
  | some p =>
    obtain ⟨h1, h2, h3⟩ := dbl_some (l := s.data.toList) hq
    rw [show (⟨#[58, 58]⟩ : ByteArray).data.toList = [58, 58] from rfl, if_pos h1]
    dsimp only
    rw [mk_str h2, mk_str (l := s.data.toList.drop ((Lib.index s.data.toList [58, 58]).toNat + [58, 58].length)) h3]
theorem index_any1 (s : ByteArray) (c : UInt8) (w : World) : Calls Tryz.prog 146 #[.string s, .string ⟨#[c]⟩] w fun e w' => e = .returned (.int .i64 (if s.size ≤ skipTo (fun x => x != (c.toNat : Int)) (byteL s) 0 then -1 else (skipTo (fun x => x != (c.toNat : Int)) (byteL s) 0 : Int))) ∧ w = w' :=
  (Tryz.strings_Index_one s c w).mono fun e w' ⟨he, hw⟩ => ⟨by
    rw [he, indexByte_bl c s.data.toList, show (bl s.data.toList).length = s.size from byteL_len s]; rfl, hw.symm⟩
/-- The first byte of a text that is one of the stops. -/
theorem indexAny_bl (st : List UInt8) : ∀ l : List UInt8, Lib.indexAny l st = if (bl l).length ≤ skipTo (fun x => !(bl st).contains x) (bl l) 0 then -1 else (skipTo (fun x => !(bl st).contains x) (bl l) 0 : Int)
  | [] => rfl
  | b :: l => by
    have ih := indexAny_bl st l
    have hb : bl (b :: l) = (b.toNat : Int) :: bl l := rfl
    have hc : (bl st).contains (b.toNat : Int) = st.contains b := by
      rw [Bool.eq_iff_iff, List.contains_iff_mem, List.contains_iff_mem]
      constructor
      · intro h
        obtain ⟨x, hx, he⟩ := List.mem_map.1 h
        have : x = b := UInt8.toNat_inj.1 (by omega)
        rw [← this]; exact hx
      · intro h
        exact List.mem_map.2 ⟨b, h, rfl⟩
    rw [Lib.indexAny, hb]
    unfold skipTo at ih ⊢
    rw [List.drop_zero] at ih ⊢
    rw [List.takeWhile_cons, hc]
    cases h : st.contains b with
    | true => simp
    | false =>
      simp only [Bool.false_eq_true, if_false, Bool.not_false, if_true]
      rw [List.length_cons, List.length_cons, ih]
      by_cases h2 : (bl l).length ≤ 0 + ((bl l).takeWhile fun x => !(bl st).contains x).length
      · rw [if_pos h2, if_pos (by rfl), if_pos (by omega)]
      · rw [if_neg h2, if_neg (by simp <;> omega), if_neg (by omega)]
        omega
end Go.Proofs.YthfonniieaiocaaGreatDoor
namespace Go.Proofs.YthfonniieaiocaaGreatDoor
open Go.RowKit

theorem getD_mid (p : List Int) (c : Int) (r : List Int) : (p ++ c :: r).getD p.length 0 = c := by
  rw [List.getD_eq_getElem?_getD, List.getElem?_append_right (Nat.le_refl _), Nat.sub_self]; rfl
theorem getD_app (p z : List Int) (i : Nat) : (p ++ z).getD (p.length + i) 0 = z.getD i 0 := by
  rw [List.getD_eq_getElem?_getD, List.getD_eq_getElem?_getD, List.getElem?_append_right (Nat.le_add_right _ _), Nat.add_sub_cancel_left]
theorem hexV_hexU {n : Int} (h : 0 ≤ n ∧ n < 16) : hexV (hexU n) = n := by
  unfold hexU
  split
  · unfold hexV; rw [if_pos (by omega)]; omega
  · unfold hexV; rw [if_neg (by omega), if_neg (by omega), if_pos (by omega)]; omega
theorem clsL_mem {k c : Int} (h : (clsL k).contains c = true) : c ∈ ([38, 61, 43, 36, 44, 59, 63, 47, 91, 93, 58] : List Int) := by
  rw [List.contains_iff_mem] at h
  unfold clsL at h
  split at h
  · simp at h ⊢; omega
  · split at h
    · simp at h ⊢; omega
    · split at h
      · simp at h ⊢; omega
      · cases h
/-- What the characters of a class are. -/
theorem inC_is {k c : Int} (h : inC k c = true) : isLet c = true ∨ isDig c = true ∨ c ∈ ([45, 95, 46, 33, 126, 42, 39, 40, 41] : List Int) ∨ c ∈ clsL k := by
  unfold inC at h
  rw [Bool.or_eq_true, Bool.or_eq_true, Bool.or_eq_true] at h
  rcases h with (h | h | h) | h
  · exact .inl h
  · exact .inr (.inl h)
  · exact .inr (.inr (.inl (List.contains_iff_mem.1 h)))
  · exact .inr (.inr (.inr (List.contains_iff_mem.1 h)))
theorem inC_range {k c : Int} (h : inC k c = true) : 33 ≤ c ∧ c ≤ 126 ∧ c ≠ 37 ∧ c ≠ 34 ∧ c ≠ 60 ∧ c ≠ 62 ∧ c ≠ 64 := by
  rcases inC_is h with h | h | h | h
  · unfold isLet at h; simp at h; omega
  · unfold isDig at h; simp at h; omega
  · simp at h; omega
  · have := clsL_mem (List.contains_iff_mem.2 h)
    simp at this; omega
theorem inC_37 (k : Int) : inC k 37 = false := by
  rw [Bool.eq_false_iff]; intro h; exact (inC_range h).2.2.1 rfl
theorem inC_hexU {k n : Int} (h : 0 ≤ n ∧ n < 16) : inC k (hexU n) = true := by
  unfold hexU inC
  split
  · rw [show isDig (48 + n) = true by unfold isDig; simp; omega]; simp
  · rw [show isLet (55 + n) = true by unfold isLet; simp; omega]; simp
theorem inC_ctl {k c : Int} (h : inC k c = true) : isCtl c = false := by
  have := inC_range h
  unfold isCtl
  simp; omega
/-- A character that an escaped text may hold. -/
def escX (k c : Int) : Bool := c == 37 || inC k c
theorem escT_in {k : Int} {xs : List Int} (h : By xs) : ∀ c ∈ escT k xs, escX k c = true := fun c hc => by
  unfold escT at hc
  obtain ⟨d, hd, hc⟩ := List.mem_flatMap.1 hc
  have h1 := h d hd
  unfold escC2 at hc
  unfold escX
  split at hc
  · rename_i h2
    rw [List.mem_singleton] at hc; subst hc; rw [h2]; simp
  · simp at hc
    rcases hc with rfl | rfl | rfl
    · rfl
    · rw [inC_hexU (by omega)]; simp
    · rw [inC_hexU (by omega)]; simp
theorem escT_cons (k c : Int) (r : List Int) : escT k (c :: r) = escC2 k c ++ escT k r := rfl
theorem escAt_esc {k c : Int} (h : 0 ≤ c ∧ c < 256) (p r : List Int) : escAt (p ++ ([37, hexU (c / 16), hexU (c % 16)] ++ r)) p.length = c := by
  have e0 : (p ++ ([37, hexU (c / 16), hexU (c % 16)] ++ r)).getD p.length 0 = 37 := getD_mid p 37 _
  have e1 : (p ++ ([37, hexU (c / 16), hexU (c % 16)] ++ r)).getD (p.length + 1) 0 = hexU (c / 16) := getD_app p _ 1
  have e2 : (p ++ ([37, hexU (c / 16), hexU (c % 16)] ++ r)).getD (p.length + 2) 0 = hexU (c % 16) := getD_app p _ 2
  unfold escAt
  rw [e0, e1, e2, hexV_hexU (by omega), hexV_hexU (by omega), if_neg]
  · omega
  · simp; omega
theorem unesc_esc (k : Int) : ∀ (r p acc : List Int) (f : Nat), By r → (escT k r).length + 1 ≤ f → unescN (p ++ escT k r) f p.length acc = (acc ++ r, 0, 0)
  | [], p, acc, f, _, hf => by
    obtain ⟨g, rfl⟩ : ∃ g, f = g + 1 := ⟨f - 1, by have : (escT k []).length = 0 := rfl; omega⟩
    rw [unescN_end (by simp [escT])]; simp
  | c :: r, p, acc, f, hb, hf => by
    have hc := hb c (by simp)
    have hr : By r := fun x hx => hb x (by simp [hx])
    rw [escT_cons] at hf ⊢
    unfold escC2 at hf ⊢
    by_cases h : inC k c = true
    · rw [if_pos h] at hf ⊢
      obtain ⟨g, rfl⟩ : ∃ g, f = g + 1 := ⟨f - 1, by rw [List.length_append] at hf; omega⟩
      have e : (p ++ ([c] ++ escT k r)).getD p.length 0 = c := getD_mid p c _
      rw [unescN_plain (by simp) (by rw [e]; exact (inC_range h).2.2.1), e]
      have ih := unesc_esc k r (p ++ [c]) (acc ++ [c]) g hr (by rw [List.length_append] at hf; simp at hf; omega)
      rw [List.append_assoc, List.length_append, List.length_singleton, List.append_assoc] at ih
      exact ih
    · rw [if_neg h] at hf ⊢
      obtain ⟨g, rfl⟩ : ∃ g, f = g + 1 := ⟨f - 1, by rw [List.length_append] at hf; omega⟩
      have e : (p ++ ([37, hexU (c / 16), hexU (c % 16)] ++ escT k r)).getD p.length 0 = 37 := getD_mid p 37 _
      have e2 := escAt_esc (k := k) hc p (escT k r)
      rw [unescN_esc (by simp) e (by rw [e2]; omega), e2]
      have ih := unesc_esc k r (p ++ [37, hexU (c / 16), hexU (c % 16)]) (acc ++ [c]) g hr (by rw [List.length_append] at hf; simp at hf; omega)
      rw [List.append_assoc, List.length_append, List.append_assoc] at ih
      exact ih
theorem unescL_esc (k : Int) {s : List Int} (h : By s) : unescL (escT k s) = (s, 0, 0) := unesc_esc k s [] [] _ h (Nat.le_refl _)
theorem contL_esc (k : Int) {s : List Int} (h : By s) : contL (escT k s) = s := by unfold contL; rw [unescL_esc k h]
theorem wrongN_end {xs : List Int} {k : Int} {f i : Nat} (h : xs.length ≤ i) : wrongN xs k f i = none := by
  cases f with
  | zero => rfl
  | succ f => unfold wrongN; rw [if_pos h]
theorem wrongN_step (xs : List Int) (k : Int) (f i : Nat) : wrongN xs k (f + 1) i = if xs.length ≤ i then none
    else if inC k (xs.getD i 0) = true then wrongN xs k f (i + 1)
    else if escAt xs i < 0 ∨ isCtl (escAt xs i) = true then some i
    else wrongN xs k f (i + 3) := rfl
theorem wrong_esc (k : Int) : ∀ (r p : List Int) (f : Nat), By r → clean r = true → wrongN (p ++ escT k r) k f p.length = none
  | _, p, 0, _, _ => rfl
  | [], p, f + 1, _, _ => wrongN_end (by simp [escT])
  | c :: r, p, f + 1, hb, hcl => by
    have hc := hb c (by simp)
    have hr : By r := fun x hx => hb x (by simp [hx])
    have hcl2 : isCtl c = false ∧ clean r = true := by
      unfold clean at hcl ⊢
      rw [List.all_cons, Bool.and_eq_true] at hcl
      exact ⟨by simpa using hcl.1, hcl.2⟩
    rw [escT_cons, wrongN_step]
    unfold escC2
    by_cases h : inC k c = true
    · rw [if_pos h]
      have e : (p ++ ([c] ++ escT k r)).getD p.length 0 = c := getD_mid p c _
      rw [e, if_neg (by simp), if_pos h]
      have ih := wrong_esc k r (p ++ [c]) f hr hcl2.2
      rw [List.append_assoc, List.length_append, List.length_singleton] at ih
      exact ih
    · rw [if_neg h]
      have e : (p ++ ([37, hexU (c / 16), hexU (c % 16)] ++ escT k r)).getD p.length 0 = 37 := getD_mid p 37 _
      have e2 := escAt_esc (k := k) hc p (escT k r)
      rw [e, e2, if_neg (by simp), if_neg (by rw [inC_37]; decide), if_neg (by rw [hcl2.1]; simp; omega)]
      have ih := wrong_esc k r (p ++ [37, hexU (c / 16), hexU (c % 16)]) f hr hcl2.2
      rw [List.append_assoc, List.length_append] at ih
      exact ih
theorem wrongL_esc (k : Int) {s : List Int} (p : List Int) (h : By s) (hc : clean s = true) : wrongL (p ++ escT k s) k p.length = none := wrong_esc k s p _ h hc
/- What is not wrong is content. -/
theorem escAt_app (p z : List Int) (i : Nat) : escAt (p ++ z) (p.length + i) = escAt z i := by
  unfold escAt
  rw [getD_app, show p.length + i + 1 = p.length + (i + 1) from rfl, show p.length + i + 2 = p.length + (i + 2) from rfl, getD_app, getD_app, List.length_append]
  by_cases h : z.length ≤ i + 2
  · rw [if_pos (.inl (by omega)), if_pos (.inl h)]
  · simp only [h, show ¬ p.length + z.length ≤ p.length + (i + 2) by omega, false_or]
theorem wrongN_app (p z : List Int) (k : Int) : ∀ (f i : Nat), wrongN (p ++ z) k f (p.length + i) = (wrongN z k f i).map (p.length + ·)
  | 0, i => rfl
  | f + 1, i => by
    rw [wrongN_step, wrongN_step, getD_app, escAt_app, List.length_append]
    by_cases h : z.length ≤ i
    · rw [if_pos (by omega), if_pos h]; rfl
    · rw [if_neg (by omega), if_neg h]
      have h1 := wrongN_app p z k f (i + 1)
      have h3 := wrongN_app p z k f (i + 3)
      split
      · rw [← h1]; rfl
      · split
        · rfl
        · rw [← h3]; rfl
theorem wrongN_fuel (z : List Int) (k : Int) : ∀ (f g i : Nat), z.length + 1 ≤ f + i → z.length + 1 ≤ g + i → wrongN z k f i = wrongN z k g i
  | 0, g, i, hf, hg => by rw [wrongN_end (by omega), wrongN_end (by omega)]
  | f + 1, 0, i, hf, hg => by rw [wrongN_end (by omega), wrongN_end (by omega)]
  | f + 1, g + 1, i, hf, hg => by
    rw [wrongN_step, wrongN_step]
    have h1 := wrongN_fuel z k f g (i + 1) (by omega) (by omega)
    have h3 := wrongN_fuel z k f g (i + 3) (by omega) (by omega)
    rw [h1, h3]
theorem wrongL_app (p z : List Int) (k : Int) : wrongL (p ++ z) k p.length = (wrongL z k 0).map (p.length + ·) := by
  unfold wrongL
  rw [← wrongN_app p z k, Nat.add_zero]
  exact wrongN_fuel _ _ _ _ _ (by omega) (by rw [List.length_append]; omega)
theorem wrong_cont {z : List Int} {k : Int} (hz : By z) : ∀ (f g i : Nat) (acc : List Int), z.length + 1 ≤ f + i → z.length + 1 ≤ g + i → wrongN z k f i = none →
    ∃ o, unescN z g i acc = (acc ++ o, 0, 0) ∧ By o ∧ clean o = true ∧ (o = [] ↔ z.length ≤ i) ∧ o.length ≤ z.length - i
  | f, g, i, acc, hf, hg, hw => by
    by_cases hi : z.length ≤ i
    · refine ⟨[], ?_, (fun x hx => by cases hx), rfl, ⟨fun _ => hi, fun _ => rfl⟩, Nat.zero_le _⟩
      rw [List.append_nil]
      cases g with
      | zero => rfl
      | succ g => exact unescN_end hi
    · obtain ⟨f, rfl⟩ : ∃ g, f = g + 1 := ⟨f - 1, by omega⟩
      obtain ⟨g, rfl⟩ : ∃ h, g = h + 1 := ⟨g - 1, by omega⟩
      rw [wrongN_step, if_neg hi] at hw
      by_cases hc : inC k (z.getD i 0) = true
      · rw [if_pos hc] at hw
        obtain ⟨o, h1, h2, h3, h4, h5⟩ := wrong_cont hz f g (i + 1) (acc ++ [z.getD i 0]) (by omega) (by omega) hw
        refine ⟨z.getD i 0 :: o, ?_, ?_, ?_, ⟨(fun h => by cases h), fun h => absurd h hi⟩, by rw [List.length_cons]; omega⟩
        · rw [unescN_plain (by omega) (inC_range hc).2.2.1, h1]; simp
        · intro x hx
          rcases List.mem_cons.1 hx with rfl | hx
          · exact hz _ (getD_mem (by omega))
          · exact h2 x hx
        · unfold clean at h3 ⊢
          rw [List.all_cons, h3, inC_ctl hc]; rfl
      · rw [if_neg hc] at hw
        by_cases he : escAt z i < 0 ∨ isCtl (escAt z i) = true
        · rw [if_pos he] at hw; cases hw
        · rw [if_neg he] at hw
          have hne : ¬ escAt z i < 0 := fun h => he (.inl h)
          have hct : isCtl (escAt z i) = false := by cases h : isCtl (escAt z i) with
            | false => rfl
            | true => exact absurd (.inr h) he
          have h37 : z.getD i 0 = 37 := by
            unfold escAt at hne
            split at hne
            · omega
            · rename_i h; simp at h; simpa using h.2.1
          have hl : i + 2 < z.length := by
            unfold escAt at hne
            split at hne
            · omega
            · rename_i h; simp at h; omega
          obtain ⟨o, h1, h2, h3, h4, h5⟩ := wrong_cont hz f g (i + 3) (acc ++ [escAt z i]) (by omega) (by omega) hw
          refine ⟨escAt z i :: o, ?_, ?_, ?_, ⟨(fun h => by cases h), fun h => absurd h hi⟩, by rw [List.length_cons]; omega⟩
          · rw [unescN_esc (by omega) h37 hne, h1]; simp
          · intro x hx
            rcases List.mem_cons.1 hx with rfl | hx
            · have := escAt_range z i; omega
            · exact h2 x hx
          · unfold clean at h3 ⊢
            rw [List.all_cons, h3, hct]; rfl
/-- The content of a text that is not wrong. -/
theorem contL_ok {z : List Int} {k : Int} (hz : By z) (h : wrongL z k 0 = none) : By (contL z) ∧ clean (contL z) = true ∧ (contL z = [] ↔ z = []) ∧ (contL z).length ≤ z.length := by
  obtain ⟨o, h1, h2, h3, h4, h5⟩ := wrong_cont hz (z.length + 1) (z.length + 1) 0 [] (by omega) (by omega) h
  have e : contL z = o := by unfold contL unescL; rw [h1]; rfl
  rw [e]
  refine ⟨h2, h3, h4.trans ?_, by omega⟩
  constructor
  · intro h; exact List.eq_nil_of_length_eq_zero (by omega)
  · rintro rfl; simp
theorem wrongN_le {z : List Int} {k : Int} : ∀ (f i : Nat) {j : Nat}, wrongN z k f i = some j → i ≤ j ∧ j < z.length
  | 0, i, j, h => by cases h
  | f + 1, i, j, h => by
    rw [wrongN_step] at h
    split at h
    · cases h
    · split at h
      · have := wrongN_le f (i + 1) h; omega
      · split at h
        · injection h with h; subst h; omega
        · have := wrongN_le f (i + 3) h; omega
end Go.Proofs.YthfonniieaiocaaGreatDoor
