/- Plain law: the parts of an address text that is read are no longer than the text. The law's awake; what the parsers hand over. Contract: the law's awake. -/
import Derived.Test.YthfonniieaiocaaGreatDoorVe
import Derived.Test.YthfonniieaiocaaGreatDoorBr
import Derived.Test.YthfonniieaiocaaGreatDoorUr
import Derived.Test.YthfonniieaiocaaGreatDoorUs
set_option linter.unusedVariables false
set_option linter.unusedSimpArgs false
namespace Go.Proofs.YthfonniieaiocaaGreatDoor
open Go.RowKit

def FSz (n : Nat) (l : List Pm) : Prop := ∀ p ∈ l, p.n.length ≤ n ∧ p.v.length ≤ n
theorem FSz.sort {n : Nat} {l : List Pm} (h : FSz n l) : FSz n (sortPm l) := fun p hp => h p ((sort_perm l).mem_iff.1 hp)
theorem FSz.snoc {n : Nat} {l : List Pm} {p : Pm} (h : FSz n l) (h1 : p.n.length ≤ n) (h2 : p.v.length ≤ n) : FSz n (l ++ [p]) := fun q hq => by
  rcases List.mem_append.1 hq with hq | hq
  · exact h q hq
  · rw [List.mem_singleton] at hq; subst hq; exact ⟨h1, h2⟩
theorem unescN_len (xs : List Int) : ∀ (f i : Nat) (acc : List Int), (unescN xs f i acc).1.length ≤ acc.length + (xs.length - i)
  | 0, i, acc => by unfold unescN; exact Nat.le_add_right _ _
  | f + 1, i, acc => by
    unfold unescN
    by_cases h1 : xs.length ≤ i
    · rw [if_pos h1]; exact Nat.le_add_right _ _
    rw [if_neg h1]
    by_cases h2 : xs.getD i 0 ≠ 37
    · rw [if_pos h2]
      have := unescN_len xs f (i + 1) (acc ++ [xs.getD i 0])
      rw [List.length_append, List.length_singleton] at this
      omega
    rw [if_neg h2]
    by_cases h3 : escAt xs i < 0
    · rw [if_pos h3]; exact Nat.zero_le _
    · rw [if_neg h3]
      have := unescN_len xs f (i + 3) (acc ++ [escAt xs i])
      rw [List.length_append, List.length_singleton] at this
      omega
theorem cont_len (xs : List Int) : (contL xs).length ≤ xs.length := by
  have := unescN_len xs (xs.length + 1) 0 []
  unfold contL unescL
  simpa using this
theorem sub_cont (xs : List Int) (a b : Nat) : (contL (subL xs a b)).length ≤ xs.length := Nat.le_trans (cont_len _) (subL_sub xs a b).length_le
theorem field_sz {xs : List Int} {l m : List Pm} {a e : Nat} {k : Int} (h : FSz xs.length l) (hf : fieldL xs l a e k = .ok m) : FSz xs.length m := by
  unfold fieldL at hf
  dsimp only at hf
  split at hf
  · cases hf
  · split at hf
    · cases hf
    · split at hf
      · split at hf
        · cases hf
        · split at hf
          · cases hf
          · split at hf
            · cases hf
            · injection hf with hf
              subst hf
              exact h.snoc (by rw [lowS_len]; exact sub_cont _ _ _) (sub_cont _ _ _)
      · split at hf
        · cases hf
        · split at hf
          · cases hf
          · injection hf with hf
            subst hf
            exact h.snoc (by rw [lowS_len]; exact sub_cont _ _ _) (Nat.zero_le _)
theorem ps_sz {xs stops : List Int} : ∀ (f a : Nat) (l m : List Pm) (b : Nat), FSz xs.length l → psN xs stops f a l = .ok (m, b) → FSz xs.length m
  | 0, a, l, m, b, h, hp => by unfold psN at hp; injection hp with hp; injection hp with h1; subst h1; exact h
  | f + 1, a, l, m, b, h, hp => by
    unfold psN at hp
    split at hp
    · injection hp with hp; injection hp with h1; subst h1; exact h
    · split at hp
      · cases hp
      · rename_i hf
        exact ps_sz f _ _ m b (field_sz h hf) hp
theorem hs_sz {xs : List Int} : ∀ (f a : Nat) (l m : List Pm), FSz xs.length l → hsN xs f a l = .ok m → FSz xs.length m
  | 0, a, l, m, h, hp => by unfold hsN at hp; injection hp with h1; subst h1; exact h
  | f + 1, a, l, m, h, hp => by
    unfold hsN at hp
    split at hp
    · injection hp with h1; subst h1; exact h
    · split at hp
      · cases hp
      · rename_i hf
        exact hs_sz f _ _ m (field_sz h hf) hp
theorem tail_sz {xs stops sc us ho : List Int} {po : Int} {a : Nat} {u : Uri} (h : tailL xs stops sc us ho po a = .ok u) : u.sc = sc ∧ u.us = us ∧ u.ho = ho ∧ FSz xs.length u.ps ∧ FSz xs.length u.hs := by
  unfold tailL at h
  cases hp : psN xs stops (xs.length + 1) a [] with
  | error e => rw [hp] at h; cases h
  | ok r =>
    obtain ⟨ps, b⟩ := r
    rw [hp] at h
    dsimp only at h
    have h1 := ps_sz _ _ _ _ _ (fun p hp => by cases hp) hp
    cases hh : hsN xs (xs.length + 1) b [] with
    | error e => rw [hh] at h; cases h
    | ok hs =>
      rw [hh] at h
      dsimp only at h
      have h2 := hs_sz _ _ _ _ (fun p hp => by cases hp) hh
      injection h with h
      subst h
      exact ⟨rfl, rfl, rfl, h1.sort, h2.sort⟩
theorem uri_sz {xs : List Int} {u : Uri} (h : uriL xs = .ok u) : u.sc.length ≤ 1024 ∧ u.us.length ≤ 1024 ∧ u.ho.length ≤ 1024 ∧ FSz 1024 u.ps ∧ FSz 1024 u.hs := by
  unfold uriL at h
  by_cases h0 : 1024 < xs.length
  · rw [if_pos h0] at h; cases h
  rw [if_neg h0] at h
  have hl : xs.length ≤ 1024 := by omega
  have up : ∀ {l : List Pm}, FSz xs.length l → FSz 1024 l := fun h p hp => ⟨Nat.le_trans (h p hp).1 hl, Nat.le_trans (h p hp).2 hl⟩
  dsimp only at h
  split at h
  · cases h
  generalize hk : untilL xs 0 [58] = k at *
  have hsc : (lowS (xs.take k)).length ≤ 1024 := by rw [lowS_len, List.length_take]; omega
  split at h
  · unfold placeL at h
    cases hu : userL xs (k + 1) with
    | error e => rw [hu] at h; cases h
    | ok r =>
      obtain ⟨us, b⟩ := r
      rw [hu] at h
      dsimp only at h
      have hus : us.length ≤ xs.length := by
        unfold userL at hu
        dsimp only at hu
        split at hu
        · injection hu with hu; injection hu with h1; subst h1; exact Nat.zero_le _
        · split at hu
          · cases hu
          · split at hu
            · cases hu
            · injection hu with hu; injection hu with h1; subst h1; exact sub_cont _ _ _
      cases hh : hostL (subL xs b (hostEnd xs b)) with
      | none => rw [hh] at h; cases h
      | some ho =>
        rw [hh] at h
        dsimp only at h
        have hho := Nat.le_trans (host_len hh) (subL_sub xs _ _).length_le
        cases hp : portL xs (hostEnd xs b) with
        | error e => rw [hp] at h; cases h
        | ok q =>
          obtain ⟨po, c⟩ := q
          rw [hp] at h
          dsimp only at h
          obtain ⟨e1, e2, e3, e4, e5⟩ := tail_sz h
          rw [e1, e2, e3]
          exact ⟨hsc, by omega, by omega, up e4, up e5⟩
  · split at h
    · cases hp : phoneL xs (k + 1) with
      | error e => rw [hp] at h; cases h
      | ok r =>
        obtain ⟨us, c⟩ := r
        rw [hp] at h
        dsimp only at h
        have hus : us.length ≤ 31 := by
          unfold phoneL at hp
          dsimp only at hp
          split at hp
          · cases hp
          · split at hp
            · cases hp
            · split at hp
              · cases hp
              · rename_i h3
                injection hp with hp; injection hp with h1; subst h1
                rw [List.length_append]
                have : (if atL xs (k + 1) 43 = true then [(43 : Int)] else []).length ≤ 1 := by split <;> simp
                omega
        obtain ⟨e1, e2, e3, e4, e5⟩ := tail_sz h
        rw [e1, e2, e3]
        exact ⟨hsc, by omega, by simp, up e4, up e5⟩
    · cases h
end Go.Proofs.YthfonniieaiocaaGreatDoor
namespace Go.Proofs.YthfonniieaiocaaGreatDoor
open Go.RowKit

def uS (u : Uri) (A1 A2 : Option Addr) (c1 c2 : Nat) : Value := .agg #[.string (strOfNums u.sc), .string (strOfNums u.us), .string (strOfNums u.ho), .int .i64 u.po, .slice A1 u.ps.length c1, .slice A2 u.hs.length c2]
theorem byD {l : List Int} (h : l.all (fun x => decide (0 ≤ x ∧ x < 256)) = true) : By l := fun x hx => by simpa using List.all_eq_true.1 h x hx
theorem VX.rdw {w w' : World} {v : Value} {n : Nat} {cs : List Value} (H : VX 56 3 w v n cs w') : ∃ A c, v = .slice A n c ∧ Rds w' w'.heap.size A cs := by
  obtain ⟨K, A, c, hv, _, hK, hR⟩ := H.whole
  exact ⟨A, c, hv, hR w' fun r hr => (hK r hr).1⟩
theorem uriN_by {u : Uri} (h : UriN u) : UriBy u := by
  have h1 : By u.sc := by
    rcases h.k with h | h
    · rcases h.1 with h | h <;> rw [h] <;> exact byD rfl
    · rw [h.1]; exact byD rfl
  have h2 : By u.ho := by
    rcases h.k with h | h
    · exact h.2.2.1
    · rw [h.2.1]; exact fun x hx => by cases hx
  exact ⟨h1, h.us, h2, h.ps.by, h.hs.by⟩
theorem uarg_parsed {xs : List Int} {u : Uri} {w : World} {A1 A2 : Option Addr} (hx : By xs) (h : uriL xs = .ok u) (r1 : Rds w w.heap.size A1 (pms u.ps)) (r2 : Rds w w.heap.size A2 (pms u.hs)) : UArg w u A1 A2 := by
  have hn : UriN u := by have := uri_ok hx; rw [h] at this; exact this
  obtain ⟨s1, s2, s3, s4, s5⟩ := uri_sz h
  have hb := uriN_by hn
  exact ⟨hb, by omega, by omega, by omega, fun p hp => ⟨(hb.ps p hp).1, (hb.ps p hp).2, by have := s4 p hp; omega, by have := s4 p hp; omega⟩, fun p hp => ⟨(hb.hs p hp).1, (hb.hs p hp).2, by have := s5 p hp; omega, by have := s5 p hp; omega⟩, r1, r2, by have := hn.ps.len; omega, by have := hn.hs.len; omega⟩
/-- A text that is read: the address as a value. -/
theorem parse_good (s : ByteArray) {u : Uri} (h : uriL (byteL s) = .ok u) (w : World) (hC : CLS w) (hG : GM w) (hP : PT w) : Calls Tryz.prog 23 #[.string s] w fun e w' => ∃ A1 A2 c1 c2, e = .returned (.tuple #[uS u A1 A2 c1 c2, .int .i64 0, .int .u8 0]) ∧ Below w.heap.size w w' ∧ UArg w' u A1 A2 := by
  refine (parse_any s w hC hG hP).mono ?_
  intro e w' hr
  rw [h] at hr
  obtain ⟨v1, v2, rfl, h1, h2⟩ := hr
  have hb := h1.bw
  obtain ⟨A1, c1, rfl, r1⟩ := h1.rdw
  obtain ⟨A2, c2, rfl, r2⟩ := h2.rdw
  exact ⟨A1, A2, c1, c2, rfl, hb, uarg_parsed (byteL_by s) h r1 r2⟩
theorem parse_wrong (s : ByteArray) {n : Nat} {k : Int} (h : uriL (byteL s) = .error (n, k)) (w : World) (hC : CLS w) (hG : GM w) (hP : PT w) : Calls Tryz.prog 23 #[.string s] w fun e w' => e = .returned (.tuple #[.agg #[.string ⟨#[]⟩, .string ⟨#[]⟩, .string ⟨#[]⟩, .int .i64 0, .slice none 0 0, .slice none 0 0], .int .i64 (n : Nat), .int .u8 k]) ∧ Below w.heap.size w w' := by
  refine (parse_any s w hC hG hP).mono ?_
  intro e w' hr
  rw [h] at hr
  exact ⟨hr.1, hr.2.1⟩
def AW1 : Uri := ⟨[115, 105, 112], [65, 108, 105, 99, 101], [101, 120, 97, 109, 112, 108, 101, 46, 99, 111, 109], 5070, [⟨[97], [65], true⟩, ⟨[108, 114], [], false⟩], []⟩
theorem aw1 : uriL (byteL ⟨#[83, 73, 80, 58, 65, 108, 37, 54, 57, 99, 101, 64, 69, 120, 97, 109, 112, 108, 101, 46, 99, 111, 109, 58, 53, 48, 55, 48, 59, 76, 82, 59, 97, 61, 37, 52, 49]⟩) = .ok AW1 := by kernel_rfl
theorem rds_row {w : World} {g : Nat} {vs : List Value} (h : Row w g 56 vs) : Rds w w.heap.size (some ⟨g, 0, none⟩) vs := fun _ => ⟨g, 0, rfl, h.lt, fun j u hj => h.range j u hj⟩
theorem aw_same (A1 A2 : Option Addr) (c1 c2 g : Nat) (w : World) (H : UArg w AW1 A1 A2) (hr : Row w g 56 [.string ⟨#[97]⟩, .string ⟨#[65]⟩, .bool true, .string ⟨#[108, 114]⟩, .string ⟨#[]⟩, .bool false]) :
    Calls Tryz.prog 25 #[uS AW1 A1 A2 c1 c2, .agg #[.string ⟨#[115, 105, 112]⟩, .string ⟨#[65, 108, 105, 99, 101]⟩, .string ⟨#[101, 120, 97, 109, 112, 108, 101, 46, 99, 111, 109]⟩, .int .i64 5070, .slice (some ⟨g, 0, none⟩) 2 2, .slice none 0 0]] w fun e w' => e = .returned (.bool true) ∧ Below w.heap.size w w' := by
  have h := same_any AW1 AW1 A1 A2 (some ⟨g, 0, none⟩) none 2 0 2 0 c1 c2 2 0 w H.by_ H.by_ rfl rfl rfl rfl H.r1 H.r2 (rds_row hr) (fun h => absurd h (by decide)) (by decide) (by decide) (by decide) (by decide)
  rw [sameU_iff.2 rfl] at h
  exact h
def AW2 : Uri := ⟨[115, 105, 112], [97, 32, 98], [72], 0, [⟨[88], [], false⟩], []⟩
theorem aw2 : printU AW2 = some [115, 105, 112, 58, 97, 37, 50, 48, 98, 64, 104, 59, 120] := by kernel_rfl
theorem aw_print (g : Nat) (w : World) (hr : Row w g 56 [.string ⟨#[88]⟩, .string ⟨#[]⟩, .bool false]) (hC : CLS w) (hG : GM w) (hP : PT w) :
    Calls Tryz.prog 29 #[.agg #[.string ⟨#[115, 105, 112]⟩, .string ⟨#[97, 32, 98]⟩, .string ⟨#[72]⟩, .int .i64 0, .slice (some ⟨g, 0, none⟩) 1 1, .slice none 0 0]] w fun e w' => e = .returned (.tuple #[.string ⟨#[115, 105, 112, 58, 97, 37, 50, 48, 98, 64, 104, 59, 120]⟩, .int .u8 0]) ∧ Below w.heap.size w w' := by
  have hs : ∀ p ∈ AW2.ps, pmSz p := by
    intro p hp
    obtain rfl : p = ⟨[88], [], false⟩ := by simpa [AW2] using hp
    exact ⟨byD rfl, byD rfl, by decide, by decide⟩
  have hb : UriBy AW2 := ⟨byD rfl, byD rfl, byD rfl, (fun p hp => ⟨(hs p hp).1, (hs p hp).2.1⟩), fun p hp => by cases hp⟩
  have h := print_any AW2 (some ⟨g, 0, none⟩) none 1 0 w ⟨hb, by decide, by decide, by decide, hs, (fun p hp => by cases hp), rds_row hr, (fun h => absurd h (by decide)), by decide, by decide⟩ hC hG hP
  rw [aw2] at h
  exact h.mono fun e w' hr => ⟨hr.2, hr.1⟩
theorem aw3 : uriL (byteL ⟨#[115, 105, 112, 58, 97, 58, 98, 64, 99]⟩) = .error (5, 15) := by kernel_rfl
def AW4 : Adr := ⟨[65, 46, 32, 66], ⟨[115, 105, 112], [97], [98], 0, [⟨[120], [], false⟩], []⟩, [⟨[116, 97, 103], [49], true⟩]⟩
theorem aw4 : adrL (byteL ⟨#[34, 65, 46, 32, 66, 34, 32, 60, 115, 105, 112, 58, 97, 64, 98, 59, 120, 62, 59, 116, 97, 103, 61, 49]⟩) = .ok AW4 := by kernel_rfl
end Go.Proofs.YthfonniieaiocaaGreatDoor
namespace Go.Proofs.YthfonniieaiocaaGreatDoor
open Go.RowKit

theorem adr_good (s : ByteArray) {a : Adr} (h : adrL (byteL s) = .ok a) (w : World) (hC : CLS w) (hG : GM w) (hP : PT w) : Calls Tryz.prog 26 #[.string s] w fun e w' => ∃ A1 A2 A3 c1 c2 c3, e = .returned (.tuple #[.agg #[.string (strOfNums a.ds), .string (strOfNums a.u.sc), .string (strOfNums a.u.us), .string (strOfNums a.u.ho), .int .i64 a.u.po, .slice A1 a.u.ps.length c1, .slice A2 a.u.hs.length c2, .slice A3 a.ps.length c3], .int .i64 0, .int .u8 0]) ∧ Below w.heap.size w w' ∧ Rds w' w'.heap.size A1 (pms a.u.ps) ∧ Rds w' w'.heap.size A2 (pms a.u.hs) ∧ Rds w' w'.heap.size A3 (pms a.ps) := by
  refine (parseadr_any s w hC hG hP).mono ?_
  intro e w' hr
  rw [h] at hr
  obtain ⟨v1, v2, v3, rfl, h1, h2, h3⟩ := hr
  have hb := h1.bw
  obtain ⟨A1, c1, rfl, r1⟩ := h1.rdw
  obtain ⟨A2, c2, rfl, r2⟩ := h2.rdw
  obtain ⟨A3, c3, rfl, r3⟩ := h3.rdw
  exact ⟨A1, A2, A3, c1, c2, c3, rfl, hb, r1, r2, r3⟩
theorem aw_tag (A : Option Addr) (c g : Nat) (w : World) (hA : Rds w w.heap.size A (pms AW4.ps)) (hr : Row w g 56 [.string ⟨#[116, 97, 103]⟩, .string ⟨#[49]⟩, .bool true]) :
    Calls Tryz.prog 41 #[.slice A AW4.ps.length c, .slice (some ⟨g, 0, none⟩) 1 1] w fun e w' => e = .returned (.bool true) ∧ ∃ q, w' = w.drewN q := by
  have hb : PmBy AW4.ps := by
    intro p hp
    obtain rfl : p = ⟨[116, 97, 103], [49], true⟩ := by simpa [AW4] using hp
    exact ⟨byD rfl, byD rfl⟩
  have h := samepms_any A (some ⟨g, 0, none⟩) 1 c 1 1 AW4.ps AW4.ps w hA (rds_row hr) rfl rfl (by decide) (by decide) hb hb
  rw [samePs_iff.2 rfl] at h
  exact h
theorem aw_x (A : Option Addr) (c g : Nat) (w : World) (hA : Rds w w.heap.size A (pms AW4.u.ps)) (hr : Row w g 56 [.string ⟨#[120]⟩, .string ⟨#[]⟩, .bool false]) :
    Calls Tryz.prog 41 #[.slice A AW4.u.ps.length c, .slice (some ⟨g, 0, none⟩) 1 1] w fun e w' => e = .returned (.bool true) ∧ ∃ q, w' = w.drewN q := by
  have hb : PmBy AW4.u.ps := by
    intro p hp
    obtain rfl : p = ⟨[120], [], false⟩ := by simpa [AW4] using hp
    exact ⟨byD rfl, byD rfl⟩
  have h := samepms_any A (some ⟨g, 0, none⟩) 1 c 1 1 AW4.u.ps AW4.u.ps w hA (rds_row hr) rfl rfl (by decide) (by decide) hb hb
  rw [samePs_iff.2 rfl] at h
  exact h
set_option maxRecDepth 100000 in
set_option maxHeartbeats 2000000 in
theorem awake_any (w : World) (hC : CLS w) (hG : GM w) (hP : PT w) : Calls Tryz.prog 22 #[] w fun e w' => e = .returned (.bool true) ∧ Below w.heap.size w w' := by
  have HC := Lib.hid (fun w' (h : Below w.heap.size w w') => hC.below h)
  have HG := Lib.hid (fun w' (h : Below w.heap.size w w') => hG.below h)
  have HP := Lib.hid (fun w' (h : Below w.heap.size w w') => hP.below h)
  clear hC hG hP
  go_enter Tryz.func22, Tryz.ntmps22
  go_wp2_with fail
  refine (parse_good ⟨#[83, 73, 80, 58, 65, 108, 37, 54, 57, 99, 101, 64, 69, 120, 97, 109, 112, 108, 101, 46, 99, 111, 109, 58, 53, 48, 55, 48, 59, 76, 82, 59, 97, 61, 37, 52, 49]⟩ aw1 w (HC.out _ (Below.refl _ _)) (HG.out _ (Below.refl _ _)) (HP.out _ (Below.refl _ _))).mono ?_
  rintro e w1 ⟨A1, A2, c1, c2, rfl, hb1, ua1⟩
  have B1 := Lib.hid hb1
  have UA := Lib.hid ua1
  clear hb1 ua1
  unfold uS
  have RZ := Lib.hid (Row.new w1 32 [.string ⟨#[]⟩, .string ⟨#[]⟩, .string ⟨#[]⟩, .int .i64 0, .slice none 0 0, .slice none 0 0])
  go_wp2_with (with_reducible refine wpList_storeG rfl 32 (.tmp 1) (.tmp 15) rfl RZ.out [.string (strOfNums AW1.sc), .string (strOfNums AW1.us), .string (strOfNums AW1.ho), .int .i64 AW1.po, .slice A1 AW1.ps.length c1, .slice A2 AW1.hs.length c2] rfl rfl (lenU _ _ _ _ _ _ _ _ _ _ _ _) (sizeU _ _ _ _ _ _) (u_one _ _ _ _) ?_)
  intro w2 R1 G_
  have S1 := Lib.hid (below_store (w := w1) (T := 32) (zs := [.string ⟨#[]⟩, .string ⟨#[]⟩, .string ⟨#[]⟩, .int .i64 0, .slice none 0 0, .slice none 0 0]) (Below.refl _ _) G_.out)
  clear RZ G_
  have B2 := Lib.hid (bthen B1.out S1.out)
  have UA := Lib.hid (UA.out.step S1.out)
  clear B1 S1
  have RP := Lib.hid (Row.new w2 56 [.string ⟨#[97]⟩, .string ⟨#[65]⟩, .bool true, .string ⟨#[108, 114]⟩, .string ⟨#[]⟩, .bool false])
  have SP := Lib.hid ((Below.refl w2.heap.size w2).alloc (Nat.le_refl _) (.cells ([.string ⟨#[97]⟩, .string ⟨#[65]⟩, .bool true, .string ⟨#[108, 114]⟩, .string ⟨#[]⟩, .bool false] : List Value).toArray 56))
  obtain ⟨_, RZ, _⟩ := two_rows w2 56 32 [.string ⟨#[97]⟩, .string ⟨#[65]⟩, .bool true, .string ⟨#[108, 114]⟩, .string ⟨#[]⟩, .bool false] [.string ⟨#[]⟩, .string ⟨#[]⟩, .string ⟨#[]⟩, .int .i64 0, .slice none 0 0, .slice none 0 0]
  have RZ := Lib.hid RZ
  go_wp2_with (with_reducible refine wpList_storeG rfl 32 (.tmp 4) (.tmp 21) rfl RZ.out [.string ⟨#[115, 105, 112]⟩, .string ⟨#[65, 108, 105, 99, 101]⟩, .string ⟨#[101, 120, 97, 109, 112, 108, 101, 46, 99, 111, 109]⟩, .int .i64 5070, .slice (some ⟨w2.heap.size, 0, none⟩) 2 2, .slice none 0 0] rfl rfl (lenU _ _ _ _ _ _ _ _ _ _ _ _) (sizeU _ _ _ _ _ _) (u_one _ _ _ _) ?_)
  intro w3 R2 G_
  have S2 := Lib.hid (below_store (w := (w2.alloc (.cells ([.string ⟨#[97]⟩, .string ⟨#[65]⟩, .bool true, .string ⟨#[108, 114]⟩, .string ⟨#[]⟩, .bool false] : List Value).toArray 56))) (T := 32) (zs := [.string ⟨#[]⟩, .string ⟨#[]⟩, .string ⟨#[]⟩, .int .i64 0, .slice none 0 0, .slice none 0 0]) (Below.refl _ _) (by rw [World.size_alloc]; exact G_.out))
  clear RZ G_
  replace RP := Lib.hid (RP.out.below S2.out)
  have S3 := Lib.hid (bthen SP.out S2.out)
  have B3 := Lib.hid (bthen B2.out S3.out)
  replace R1 := Lib.hid (R1.out.below S3.out)
  replace UA := Lib.hid (UA.out.step S3.out)
  clear B2 S2 S3 SP
  generalize w1.heap.size = g1 at *
  generalize w2.heap.size + 1 = g2 at *
  generalize w2.heap.size = gp at *
  have RX := Lib.hid (Row.new w3 56 [.string ⟨#[88]⟩, .string ⟨#[]⟩, .bool false])
  have SX := Lib.hid ((Below.refl w3.heap.size w3).alloc (Nat.le_refl _) (.cells ([.string ⟨#[88]⟩, .string ⟨#[]⟩, .bool false] : List Value).toArray 56))
  have BX := Lib.hid (bthen B3.out SX.out)
  go_wp2_with fail
  refine (aw_print _ _ RX.out (HC.out _ BX.out) (HG.out _ BX.out) (HP.out _ BX.out)).mono ?_
  rintro e w4 ⟨rfl, hb4⟩
  have S4 := Lib.hid (bthen SX.out hb4)
  have B4 := Lib.hid (bthen B3.out S4.out)
  replace R1 := Lib.hid (R1.out.below S4.out)
  replace R2 := Lib.hid (R2.out.below S4.out)
  replace RP := Lib.hid (RP.out.below S4.out)
  replace UA := Lib.hid (UA.out.step S4.out)
  clear B3 S4 RX SX BX hb4
  go_wp2_with fail
  refine (parse_wrong ⟨#[115, 105, 112, 58, 97, 58, 98, 64, 99]⟩ aw3 w4 (HC.out _ B4.out) (HG.out _ B4.out) (HP.out _ B4.out)).mono ?_
  rintro e w5 ⟨rfl, hb5⟩
  have S5 := Lib.hid hb5
  clear hb5
  have RZ := Lib.hid (Row.new w5 32 [.string ⟨#[]⟩, .string ⟨#[]⟩, .string ⟨#[]⟩, .int .i64 0, .slice none 0 0, .slice none 0 0])
  go_wp2_with (with_reducible refine wpList_storeG rfl 32 (.tmp 7) (.tmp 31) rfl RZ.out [.string ⟨#[]⟩, .string ⟨#[]⟩, .string ⟨#[]⟩, .int .i64 0, .slice none 0 0, .slice none 0 0] rfl rfl (lenU _ _ _ _ _ _ _ _ _ _ _ _) (sizeU _ _ _ _ _ _) (u_one _ _ _ _) ?_)
  intro w6 R5 G_
  have S6 := Lib.hid (below_store (w := w5) (T := 32) (zs := [.string ⟨#[]⟩, .string ⟨#[]⟩, .string ⟨#[]⟩, .int .i64 0, .slice none 0 0, .slice none 0 0]) (Below.refl _ _) G_.out)
  clear RZ G_
  have S7 := Lib.hid (bthen S5.out S6.out)
  have B6 := Lib.hid (bthen B4.out S7.out)
  replace R1 := Lib.hid (R1.out.below S7.out)
  replace R2 := Lib.hid (R2.out.below S7.out)
  replace RP := Lib.hid (RP.out.below S7.out)
  replace UA := Lib.hid (UA.out.step S7.out)
  clear B4 S5 S6 S7 R5
  go_wp2_with fail
  refine (adr_good ⟨#[34, 65, 46, 32, 66, 34, 32, 60, 115, 105, 112, 58, 97, 64, 98, 59, 120, 62, 59, 116, 97, 103, 61, 49]⟩ aw4 w6 (HC.out _ B6.out) (HG.out _ B6.out) (HP.out _ B6.out)).mono ?_
  rintro e w7 ⟨D1, D2, D3, d1, d2, d3, rfl, hb7, r1, r2, r3⟩
  have S8 := Lib.hid hb7
  have Q1 := Lib.hid r1
  have Q3 := Lib.hid r3
  clear hb7 r1 r2 r3
  have RZ := Lib.hid (Row.new w7 38 [.string ⟨#[]⟩, .string ⟨#[]⟩, .string ⟨#[]⟩, .string ⟨#[]⟩, .int .i64 0, .slice none 0 0, .slice none 0 0, .slice none 0 0])
  go_wp2_with (with_reducible refine wpList_storeG rfl 38 (.tmp 10) (.tmp 36) rfl RZ.out [.string (strOfNums AW4.ds), .string (strOfNums AW4.u.sc), .string (strOfNums AW4.u.us), .string (strOfNums AW4.u.ho), .int .i64 AW4.u.po, .slice D1 AW4.u.ps.length d1, .slice D2 AW4.u.hs.length d2, .slice D3 AW4.ps.length d3] rfl rfl (len8 _ _ _ _ _ _ _ _ _ _ _ _ _ _ _ _) (size8 _ _ _ _ _ _ _ _) (ad_one _ _ _ _ _) ?_)
  intro w8 R8 G_
  have S9 := Lib.hid (below_store (w := w7) (T := 38) (zs := [.string ⟨#[]⟩, .string ⟨#[]⟩, .string ⟨#[]⟩, .string ⟨#[]⟩, .int .i64 0, .slice none 0 0, .slice none 0 0, .slice none 0 0]) (Below.refl _ _) G_.out)
  clear RZ G_
  have S10 := Lib.hid (bthen S8.out S9.out)
  have B8 := Lib.hid (bthen B6.out S10.out)
  replace R1 := Lib.hid (R1.out.below S10.out)
  replace R2 := Lib.hid (R2.out.below S10.out)
  replace RP := Lib.hid (RP.out.below S10.out)
  replace UA := Lib.hid (UA.out.step S10.out)
  replace Q1 := Lib.hid ((Q1.out.below S9.out).up S9.out.size)
  replace Q3 := Lib.hid ((Q3.out.below S9.out).up S9.out.size)
  clear B6 S8 S9 S10 HC HG HP
  generalize w7.heap.size = g7 at *
  have V2 := Lib.hid (show Row w8 g2 32 [.string ⟨#[115, 105, 112]⟩, .string ⟨#[65, 108, 105, 99, 101]⟩, .string ⟨#[101, 120, 97, 109, 112, 108, 101, 46, 99, 111, 109]⟩, .int .i64 5070, .slice (some ⟨gp, 0, none⟩) 2 2, .slice none 0 0] from R2.out)
  have k0 : w8.cell? ⟨g1, 0, none⟩ = some (.string (strOfNums AW1.sc)) := R1.out.cell 0
  have k1 : w8.cell? ⟨g1, 1, none⟩ = some (.string (strOfNums AW1.us)) := R1.out.cell 1
  have k2 : w8.cell? ⟨g1, 2, none⟩ = some (.string (strOfNums AW1.ho)) := R1.out.cell 2
  have k3 : w8.cell? ⟨g1, 3, none⟩ = some (.int .i64 AW1.po) := R1.out.cell 3
  have k4 : w8.cell? ⟨g1, 4, none⟩ = some (.slice A1 AW1.ps.length c1) := R1.out.cell 4
  have k5 : w8.cell? ⟨g1, 5, none⟩ = some (.slice A2 AW1.hs.length c2) := R1.out.cell 5
  have m0 : w8.cell? ⟨g2, 0, none⟩ = some (.string ⟨#[115, 105, 112]⟩) := R2.out.cell 0
  have m1 : w8.cell? ⟨g2, 1, none⟩ = some (.string ⟨#[65, 108, 105, 99, 101]⟩) := R2.out.cell 1
  have m2 : w8.cell? ⟨g2, 2, none⟩ = some (.string ⟨#[101, 120, 97, 109, 112, 108, 101, 46, 99, 111, 109]⟩) := R2.out.cell 2
  have m3 : w8.cell? ⟨g2, 3, none⟩ = some (.int .i64 5070) := R2.out.cell 3
  have m4 : w8.cell? ⟨g2, 4, none⟩ = some (.slice (some ⟨gp, 0, none⟩) 2 2) := R2.out.cell 4
  have m5 : w8.cell? ⟨g2, 5, none⟩ = some (.slice none 0 0) := R2.out.cell 5
  have RR8 := R8.out
  have R8 := Lib.hid RR8
  clear RR8 R1 R2 V2
  go_wp2_with fail
  refine (aw_same A1 A2 c1 c2 gp w8 UA.out RP.out).mono ?_
  rintro _ w9 ⟨rfl, hb9⟩
  have B9 := Lib.hid (bthen B8.out hb9)
  replace R8 := Lib.hid (R8.out.below hb9)
  replace Q1 := Lib.hid ((Q1.out.below hb9).up hb9.size)
  replace Q3 := Lib.hid ((Q3.out.below hb9).up hb9.size)
  clear B8 hb9 UA RP k0 k1 k2 k3 k4 k5 m0 m1 m2 m3 m4 m5
  have k0 : w9.cell? ⟨g7, 0, none⟩ = some (.string (strOfNums AW4.ds)) := R8.out.cell 0
  have k5 : w9.cell? ⟨g7, 5, none⟩ = some (.slice D1 AW4.u.ps.length d1) := R8.out.cell 5
  have k7 : w9.cell? ⟨g7, 7, none⟩ = some (.slice D3 AW4.ps.length d3) := R8.out.cell 7
  have ED : (strOfNums AW4.ds).toList = [65, 46, 32, 66] := by kernel_rfl
  have RT := Lib.hid (Row.new w9 56 [.string ⟨#[116, 97, 103]⟩, .string ⟨#[49]⟩, .bool true])
  have ST := Lib.hid ((Below.refl w9.heap.size w9).alloc (Nat.le_refl _) (.cells ([.string ⟨#[116, 97, 103]⟩, .string ⟨#[49]⟩, .bool true] : List Value).toArray 56))
  go_wp2_with fail
  refine (aw_tag D3 d3 w9.heap.size _ ((Q3.out.below ST.out).up ST.out.size) RT.out).mono ?_
  rintro _ _ ⟨rfl, q, rfl⟩
  have ST2 := Lib.hid (show Below w9.heap.size w9 ((w9.alloc (.cells ([.string ⟨#[116, 97, 103]⟩, .string ⟨#[49]⟩, .bool true] : List Value).toArray 56)).drewN q) from ST.out.trans ⟨rfl, rfl, rfl, Nat.le_refl _, fun _ _ => rfl⟩)
  have B10 := Lib.hid (bthen B9.out ST2.out)
  replace R8 := Lib.hid (R8.out.below ST2.out)
  replace Q1 := Lib.hid ((Q1.out.below ST2.out).up ST2.out.size)
  clear k0 k5 k7 ED RT ST ST2 Q3 B9
  generalize (w9.alloc (.cells #[.string ⟨#[116, 97, 103]⟩, .string ⟨#[49]⟩, .bool true] 56)).drewN q = w10 at *
  have k5 : w10.cell? ⟨g7, 5, none⟩ = some (.slice D1 AW4.u.ps.length d1) := R8.out.cell 5
  have RT := Lib.hid (Row.new w10 56 [.string ⟨#[120]⟩, .string ⟨#[]⟩, .bool false])
  have ST := Lib.hid ((Below.refl w10.heap.size w10).alloc (Nat.le_refl _) (.cells ([.string ⟨#[120]⟩, .string ⟨#[]⟩, .bool false] : List Value).toArray 56))
  have B11 := Lib.hid (bthen B10.out ST.out)
  go_wp2_with fail
  refine (aw_x D1 d1 w10.heap.size _ ((Q1.out.below ST.out).up ST.out.size) RT.out).mono ?_
  rintro _ _ ⟨rfl, q2, rfl⟩
  go_wp2_with fail
  go_ret
  exact ⟨rfl, B11.out.trans ⟨rfl, rfl, rfl, Nat.le_refl _, fun _ _ => rfl⟩⟩
end Go.Proofs.YthfonniieaiocaaGreatDoor
