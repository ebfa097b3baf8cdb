/- The texts that Headers writes; strconv.Itoa; refresh.Headers. The law RefreshTold. -/
import Derived.Test.YtcnkjgjimcddiaaGreatDoorFa
import Derived.Test.YtcnkjgjimcddiaaGreatDoorFe
import Derived.Test.YtcnkjgjimcddiaaGreatDoorLj
import Derived.Lib.AppendIntMem
import Derived.Test.YtcnkjgjimcddiaaGreatDoorFb
import Derived.Test.YtcnkjgjimcddiaaGreatDoorEs
namespace Go.Proofs.YtcnkjgjimcddiaaGreatDoor
open Go.RowKit

def PT (w : World) : Prop := Lib.TabIs Tryz.prog w "internal/strconv.uint64pow10" .u64 Lib.pow10Tab
theorem PT.below {w w' : World} (h : PT w) (hb : Below w.heap.size w w') : PT w' := Lib.tabBelow_of_tabIs h w' hb
theorem itoa_any (n : Int) (w : World) (h0 : 0 ≤ n) (h1 : n ≤ 9223372036854775807) (hP : PT w) : Calls Tryz.prog 37 #[.int .i64 n] w fun e w' => e = .returned (.string (strOfNums (decL n))) ∧ Below w.heap.size w w' :=
  (Tryz.strconv_Itoa n (by omega) h1 w hP).mono fun e w' ⟨he, k, os, hw⟩ => ⟨by rw [he, mk_str (rfl : bl (Lib.itoa n) = bl (Lib.itoa n))]; rfl, by rw [hw]; exact Lib.below_grow _ _ (Nat.le_refl _) _ _⟩
abbrev RFL : ByteArray := ⟨#[59, 114, 101, 102, 114, 101, 115, 104, 101, 114, 61]⟩
def UAX (c : Bool) : ByteArray := if c = true then ⟨#[117, 97, 99]⟩ else ⟨#[117, 97, 115]⟩
def hdrV (N : Int) (c : Bool) : ByteArray := strOfNums (decL N ++ TAIL c)
theorem hdrV_eq (N : Int) (c : Bool) : strOfNums (decL N) ++ RFL ++ UAX c = hdrV N c := by
  unfold hdrV
  rw [show RFL = strOfNums [59, 114, 101, 102, 114, 101, 115, 104, 101, 114, 61] from rfl, str_app]
  cases c
  · rw [show UAX false = strOfNums [117, 97, 115] from rfl, str_app, List.append_assoc]; rfl
  · rw [show UAX true = strOfNums [117, 97, 99] from rfl, str_app, List.append_assoc]; rfl
/-- A text without quotes, brackets and commas is one element. -/
theorem splN_one (xs : List Int) (hx : ∀ x ∈ xs, x ≠ 34 ∧ x ≠ 60 ∧ x ≠ 62 ∧ x ≠ 44) : ∀ f i b acc, i ≤ xs.length → xs.length < f + i → splN xs 44 f i b acc = (acc ++ [pieceOf xs b xs.length], 0, 0)
  | 0, i, b, acc, h1, h2 => absurd h1 (by omega)
  | f + 1, i, b, acc, h1, h2 => by
    unfold splN
    by_cases he : xs.length ≤ i
    · rw [if_pos he]
    · obtain ⟨n1, n2, n3, n4⟩ := hx _ (getD_mem (l := xs) (i := i) (by omega))
      rw [if_neg he, if_neg n1, if_neg n2, if_neg n3, if_neg n4]
      exact splN_one xs hx f (i + 1) b acc (by omega) (by omega)
theorem elems_one (xs : List Int) (hx : ∀ x ∈ xs, x ≠ 34 ∧ x ≠ 60 ∧ x ≠ 62 ∧ x ≠ 44) : (elemsL xs).length = 1 := by
  have hs : splitL xs 44 = ([pieceOf xs 0 xs.length], 0, 0) := by
    unfold splitL
    rw [if_neg (by decide), splN_one xs hx _ _ _ _ (by omega) (by omega)]
    rfl
  unfold elemsL
  cases hq : listL xs with
  | error k => rfl
  | ok l =>
    unfold listL at hq
    rw [hs] at hq
    split at hq
    · cases hq
    split at hq
    · injection hq with hq
      subst hq; rfl
    · cases hq
theorem dec_nat {N : Int} (h0 : 0 ≤ N) : ∃ n : Nat, N = n := ⟨N.toNat, by omega⟩
theorem hdrV_by (N : Int) (c : Bool) : By (decL N ++ TAIL c) := fun x hx => by
  rcases List.mem_append.1 hx with h | h
  · exact decL_by _ x h
  · revert x; cases c <;> unfold TAIL TAILC TAILS <;> intro x _ h <;> simp at h <;> omega
theorem byteL_hdrV (N : Int) (c : Bool) : byteL (hdrV N c) = decL N ++ TAIL c := byteL_str (hdrV_by N c)
theorem hdrV_chars {N : Int} (h0 : 0 ≤ N) (c : Bool) : ∀ x ∈ decL N ++ TAIL c, x ≠ 34 ∧ x ≠ 60 ∧ x ≠ 62 ∧ x ≠ 44 ∧ x ≠ 91 := fun x hx => by
  obtain ⟨n, rfl⟩ := dec_nat h0
  rcases List.mem_append.1 hx with h | h
  · have h2 := List.all_eq_true.1 (dec_all n).1 x h
    unfold isDig at h2
    simp at h2
    omega
  · revert x; cases c <;> unfold TAIL TAILC TAILS <;> intro x _ h <;> simp at h <;> omega
theorem hdrV_size {N : Int} (h0 : 0 ≤ N) (h1 : N ≤ 86400) (c : Bool) : (hdrV N c).size ≤ 100 := by
  obtain ⟨n, rfl⟩ := dec_nat h0
  have h := dec_len n 4 (by omega)
  rw [← byteL_len, byteL_hdrV, List.length_append]
  have : (TAIL c).length = 14 := by cases c <;> rfl
  omega
theorem dec_small {N : Int} (h0 : 90 ≤ N) (h1 : N ≤ 86400) : (strOfNums (decL N)).size ≤ 5 := by
  obtain ⟨n, rfl⟩ := dec_nat (N := N) (by omega)
  have h := dec_len n 4 (by omega)
  rw [num_size]
  omega
abbrev MINB : ByteArray := ⟨#[77, 105, 110, 45, 83, 69]⟩
set_option maxRecDepth 100000 in
set_option maxHeartbeats 4000000 in
theorem headers_uac (ms uri rsn : ByteArray) (code N z : Int) (cl : Bool) (A : Option Addr) (n c : Nat) (l : List (ByteArray × ByteArray)) (w : World) (hA : Rds w w.heap.size A (hds l)) (hn : l.length = n) (hN : n ≤ 16000000) (hl : ∀ h ∈ l, h.1.size ≤ 4000000) (hS : SC w) (hP : PT w) (z0 : 90 ≤ N) (z1 : N ≤ 86400) (h0 : getH l (byteL EXPN) = none) :
    Calls Tryz.prog 24 #[.agg #[.int .i64 0, .int .i64 z, .int .i64 N, .bool true], .agg #[.string ms, .string uri, .int .i64 code, .string rsn, .slice A n c, .slice none 0 0]] w fun e w' => ∃ g cap, e = .returned (.agg #[.string ms, .string uri, .int .i64 code, .string rsn, .slice (some ⟨g, 0, none⟩) (n + 1 : Nat) cap, .slice none 0 0]) ∧ Below w.heap.size w w' ∧ Rds w' w'.heap.size (some ⟨g, 0, none⟩) (hds (setL l EXPN (hdrV N true))) ∧ w.heap.size ≤ g := by
  have HA := Lib.hid hA; have HN := Lib.hid hn; have HL := Lib.hid hl; have HS := Lib.hid hS; have HP := Lib.hid hP; have H0 := Lib.hid h0
  have SN := Lib.hid (fun ms uri rsn v code A n c l w a b d e f g => set_none ms uri rsn EXPN v code A n c l w a b d e (by decide) f g)
  have SV := Lib.hid (show strOfNums (decL N) ++ RFL ++ ⟨#[117, 97, 99]⟩ = (hdrV N true) from hdrV_eq N true)
  generalize (hdrV N true) = V at *
  clear hA hn hl hS hP h0
  have ST := Lib.hid (Mine.refl w)
  go_enter Tryz.func24, Tryz.ntmps24
  go_upto_region 1 with (fail)
  replace ST := Lib.hid (show Mine w (((w.alloc (.cells #[.int .i64 0, .int .i64 z, .int .i64 N, .bool true] 25)).alloc (.cells #[.string ms, .string uri, .int .i64 code, .string rsn, .slice A n c, .slice none 0 0] 51)).alloc (.cells #[.string ⟨#[]⟩, .string ⟨#[]⟩, .int .i64 0, .string ⟨#[]⟩, .slice none 0 0, .slice none 0 0] 51)) [(w.heap.size + 1 + 1, 51, [.string ⟨#[]⟩, .string ⟨#[]⟩, .int .i64 0, .string ⟨#[]⟩, .slice none 0 0, .slice none 0 0]), (w.heap.size + 1, 51, [.string ms, .string uri, .int .i64 code, .string rsn, .slice A n c, .slice none 0 0]), (w.heap.size, 25, [.int .i64 0, .int .i64 z, .int .i64 N, .bool true])] [] by
    have h := ((ST.out.alloc 25 [.int .i64 0, .int .i64 z, .int .i64 N, .bool true]).alloc 51 [.string ms, .string uri, .int .i64 code, .string rsn, .slice A n c, .slice none 0 0]).alloc 51 [.string ⟨#[]⟩, .string ⟨#[]⟩, .int .i64 0, .string ⟨#[]⟩, .slice none 0 0, .slice none 0 0]
    rw [World.size_alloc, World.size_alloc] at h
    exact h)
  generalize (((w.alloc (.cells #[.int .i64 0, .int .i64 z, .int .i64 N, .bool true] 25)).alloc (.cells #[.string ms, .string uri, .int .i64 code, .string rsn, .slice A n c, .slice none 0 0] 51)).alloc (.cells #[.string ⟨#[]⟩, .string ⟨#[]⟩, .int .i64 0, .string ⟨#[]⟩, .slice none 0 0, .slice none 0 0] 51)) = W at *
  have k0 := (ST.out.row (i := 2) rfl).cell 0
  have k2 := (ST.out.row (i := 2) rfl).cell 2
  have k3 := (ST.out.row (i := 2) rfl).cell 3
  simp only [List.getElem?_cons_succ, List.getElem?_cons_zero] at k0 k2 k3
  have d0 : (N == 0) = false := by simp; omega
  have ds := dec_small z0 z1
  have d1 : ¬ 9223372036854775807 < (strOfNums (decL N)).size + 11 := by omega
  have d2 : ¬ 9223372036854775807 < (strOfNums (decL N)).size + 11 + 3 := by omega
  go_upto_region 7 with (fail)
  clear k0 k2 k3
  have RM := Lib.hid (ST.out.row (i := 1) rfl)
  have RA := Lib.hid (ST.out.row (i := 2) rfl)
  have PP := Lib.hid (HP.out.below ST.out.bw)
  have q := fun x : BW W => RA.out.later x 2
  simp only [List.getElem?_cons_succ, List.getElem?_cons_zero] at q
  refine region_bwt 7 (by kernel_rfl) (by kernel_rfl) ?_
  simp only [List.take_succ_cons, List.take_zero, List.drop_succ_cons, List.drop_zero]
  go_big_quiet_want
  refine quiet_load 51 (.tmp 3) rfl (w.heap.size + 1) rfl [.string ms, .string uri, .int .i64 code, .string rsn, .slice A n c, .slice none 0 0] 51 _ RM.out Tryz.underlying51 rfl (size6m _ _ _ _ _ _) ?_
  simp only [Act.put, List.setIfInBounds_toArray, List.set_cons_zero, List.set_cons_succ]
  go_big_quiet_on
  iterate 2 go_big_quiet_step (fail)
  go_big_quiet_step (exact calls_bw (itoa_any N _ (by omega) (by omega) (PP.out.below (BW.h _))))
  iterate 3 go_big_quiet_step (fail)
  refine wpQuiet_nil ?_
  rintro _ ⟨x, rfl⟩
  replace ST := Lib.hid (ST.out.call x.h)
  generalize x.w = W1 at *
  clear q RM RA PP x
  go_wp2_with fail
  rw [SV.out]
  refine (SN.out ms uri rsn V code A n c l _ ((HA.out.below ST.out.bw).up ST.out.bw.size) HN.out hN HL.out (HS.out.below ST.out.bw) H0.out).mono ?_
  rintro e W2 ⟨g, cap, rfl, hbl, hrd, hge⟩
  have LT := Lib.hid (show w.heap.size + 1 + 1 < g from Nat.lt_of_lt_of_le (ST.out.row (i := 0) rfl).lt hge)
  replace ST := Lib.hid ((ST.out.call hbl).add (stab_rds hrd (fun b o s e => by
    injection e with e
    injection e with e
    have := LT.out
    simp only [List.map_cons, List.map_nil, List.mem_cons, List.not_mem_nil, or_false]
    omega)))
  clear hbl hrd hge
  go_wp2_with (with_reducible refine wpList_storeS ST.out 0 rfl 51 (.tmp 4) (.tmp 28) rfl [.string ms, .string uri, .int .i64 code, .string rsn, .slice (some ⟨g, 0, none⟩) (n + 1 : Nat) cap, .slice none 0 0] [(w.heap.size + 1 + 1, 51, [.string ms, .string uri, .int .i64 code, .string rsn, .slice (some ⟨g, 0, none⟩) (n + 1 : Nat) cap, .slice none 0 0]), (w.heap.size + 1, 51, [.string ms, .string uri, .int .i64 code, .string rsn, .slice A n c, .slice none 0 0]), (w.heap.size, 25, [.int .i64 0, .int .i64 z, .int .i64 N, .bool true])] rfl rfl rfl rfl (len6m _ _ _ _ _ _ _ _ _ _ _ _) (size6m _ _ _ _ _ _) (msg_one _ _ _ _ _ _) ?_)
  intro w9 S9
  go_wp2_with fail
  exact bodyPost_ret (results_cell rfl _ _ _ (w.heap.size + 1 + 1) [.string ms, .string uri, .int .i64 code, .string rsn, .slice (some ⟨g, 0, none⟩) (n + 1 : Nat) cap, .slice none 0 0] _ rfl (S9.out.row (i := 0) rfl).range Tryz.underlying51 rfl (size6m _ _ _ _ _ _)) rfl (by exact ⟨g, cap, rfl, S9.out.bw, S9.out.fact (i := 0) rfl, by have := LT.out; omega⟩)
set_option maxRecDepth 100000 in
set_option maxHeartbeats 4000000 in
theorem headers_uas (ms uri rsn : ByteArray) (code N z : Int) (cl : Bool) (A : Option Addr) (n c : Nat) (l : List (ByteArray × ByteArray)) (w : World) (hA : Rds w w.heap.size A (hds l)) (hn : l.length = n) (hN : n ≤ 16000000) (hl : ∀ h ∈ l, h.1.size ≤ 4000000) (hS : SC w) (hP : PT w) (z0 : 90 ≤ N) (z1 : N ≤ 86400) (h0 : getH l (byteL EXPN) = none) :
    Calls Tryz.prog 24 #[.agg #[.int .i64 0, .int .i64 z, .int .i64 N, .bool false], .agg #[.string ms, .string uri, .int .i64 code, .string rsn, .slice A n c, .slice none 0 0]] w fun e w' => ∃ g cap, e = .returned (.agg #[.string ms, .string uri, .int .i64 code, .string rsn, .slice (some ⟨g, 0, none⟩) (n + 1 : Nat) cap, .slice none 0 0]) ∧ Below w.heap.size w w' ∧ Rds w' w'.heap.size (some ⟨g, 0, none⟩) (hds (setL l EXPN (hdrV N false))) ∧ w.heap.size ≤ g := by
  have HA := Lib.hid hA; have HN := Lib.hid hn; have HL := Lib.hid hl; have HS := Lib.hid hS; have HP := Lib.hid hP; have H0 := Lib.hid h0
  have SN := Lib.hid (fun ms uri rsn v code A n c l w a b d e f g => set_none ms uri rsn EXPN v code A n c l w a b d e (by decide) f g)
  have SV := Lib.hid (show strOfNums (decL N) ++ RFL ++ ⟨#[117, 97, 115]⟩ = (hdrV N false) from hdrV_eq N false)
  generalize (hdrV N false) = V at *
  clear hA hn hl hS hP h0
  have ST := Lib.hid (Mine.refl w)
  go_enter Tryz.func24, Tryz.ntmps24
  go_upto_region 1 with (fail)
  replace ST := Lib.hid (show Mine w (((w.alloc (.cells #[.int .i64 0, .int .i64 z, .int .i64 N, .bool false] 25)).alloc (.cells #[.string ms, .string uri, .int .i64 code, .string rsn, .slice A n c, .slice none 0 0] 51)).alloc (.cells #[.string ⟨#[]⟩, .string ⟨#[]⟩, .int .i64 0, .string ⟨#[]⟩, .slice none 0 0, .slice none 0 0] 51)) [(w.heap.size + 1 + 1, 51, [.string ⟨#[]⟩, .string ⟨#[]⟩, .int .i64 0, .string ⟨#[]⟩, .slice none 0 0, .slice none 0 0]), (w.heap.size + 1, 51, [.string ms, .string uri, .int .i64 code, .string rsn, .slice A n c, .slice none 0 0]), (w.heap.size, 25, [.int .i64 0, .int .i64 z, .int .i64 N, .bool false])] [] by
    have h := ((ST.out.alloc 25 [.int .i64 0, .int .i64 z, .int .i64 N, .bool false]).alloc 51 [.string ms, .string uri, .int .i64 code, .string rsn, .slice A n c, .slice none 0 0]).alloc 51 [.string ⟨#[]⟩, .string ⟨#[]⟩, .int .i64 0, .string ⟨#[]⟩, .slice none 0 0, .slice none 0 0]
    rw [World.size_alloc, World.size_alloc] at h
    exact h)
  generalize (((w.alloc (.cells #[.int .i64 0, .int .i64 z, .int .i64 N, .bool false] 25)).alloc (.cells #[.string ms, .string uri, .int .i64 code, .string rsn, .slice A n c, .slice none 0 0] 51)).alloc (.cells #[.string ⟨#[]⟩, .string ⟨#[]⟩, .int .i64 0, .string ⟨#[]⟩, .slice none 0 0, .slice none 0 0] 51)) = W at *
  have k0 := (ST.out.row (i := 2) rfl).cell 0
  have k2 := (ST.out.row (i := 2) rfl).cell 2
  have k3 := (ST.out.row (i := 2) rfl).cell 3
  simp only [List.getElem?_cons_succ, List.getElem?_cons_zero] at k0 k2 k3
  have d0 : (N == 0) = false := by simp; omega
  have ds := dec_small z0 z1
  have d1 : ¬ 9223372036854775807 < (strOfNums (decL N)).size + 11 := by omega
  have d2 : ¬ 9223372036854775807 < (strOfNums (decL N)).size + 11 + 3 := by omega
  go_upto_region 7 with (fail)
  clear k0 k2 k3
  have RM := Lib.hid (ST.out.row (i := 1) rfl)
  have RA := Lib.hid (ST.out.row (i := 2) rfl)
  have PP := Lib.hid (HP.out.below ST.out.bw)
  have q := fun x : BW W => RA.out.later x 2
  simp only [List.getElem?_cons_succ, List.getElem?_cons_zero] at q
  refine region_bwt 7 (by kernel_rfl) (by kernel_rfl) ?_
  simp only [List.take_succ_cons, List.take_zero, List.drop_succ_cons, List.drop_zero]
  go_big_quiet_want
  refine quiet_load 51 (.tmp 3) rfl (w.heap.size + 1) rfl [.string ms, .string uri, .int .i64 code, .string rsn, .slice A n c, .slice none 0 0] 51 _ RM.out Tryz.underlying51 rfl (size6m _ _ _ _ _ _) ?_
  simp only [Act.put, List.setIfInBounds_toArray, List.set_cons_zero, List.set_cons_succ]
  go_big_quiet_on
  iterate 2 go_big_quiet_step (fail)
  go_big_quiet_step (exact calls_bw (itoa_any N _ (by omega) (by omega) (PP.out.below (BW.h _))))
  iterate 3 go_big_quiet_step (fail)
  refine wpQuiet_nil ?_
  rintro _ ⟨x, rfl⟩
  replace ST := Lib.hid (ST.out.call x.h)
  generalize x.w = W1 at *
  clear q RM RA PP x
  go_wp2_with fail
  rw [SV.out]
  refine (SN.out ms uri rsn V code A n c l _ ((HA.out.below ST.out.bw).up ST.out.bw.size) HN.out hN HL.out (HS.out.below ST.out.bw) H0.out).mono ?_
  rintro e W2 ⟨g, cap, rfl, hbl, hrd, hge⟩
  have LT := Lib.hid (show w.heap.size + 1 + 1 < g from Nat.lt_of_lt_of_le (ST.out.row (i := 0) rfl).lt hge)
  replace ST := Lib.hid ((ST.out.call hbl).add (stab_rds hrd (fun b o s e => by
    injection e with e
    injection e with e
    have := LT.out
    simp only [List.map_cons, List.map_nil, List.mem_cons, List.not_mem_nil, or_false]
    omega)))
  clear hbl hrd hge
  go_wp2_with (with_reducible refine wpList_storeS ST.out 0 rfl 51 (.tmp 4) (.tmp 28) rfl [.string ms, .string uri, .int .i64 code, .string rsn, .slice (some ⟨g, 0, none⟩) (n + 1 : Nat) cap, .slice none 0 0] [(w.heap.size + 1 + 1, 51, [.string ms, .string uri, .int .i64 code, .string rsn, .slice (some ⟨g, 0, none⟩) (n + 1 : Nat) cap, .slice none 0 0]), (w.heap.size + 1, 51, [.string ms, .string uri, .int .i64 code, .string rsn, .slice A n c, .slice none 0 0]), (w.heap.size, 25, [.int .i64 0, .int .i64 z, .int .i64 N, .bool false])] rfl rfl rfl rfl (len6m _ _ _ _ _ _ _ _ _ _ _ _) (size6m _ _ _ _ _ _) (msg_one _ _ _ _ _ _) ?_)
  intro w9 S9
  go_wp2_with fail
  exact bodyPost_ret (results_cell rfl _ _ _ (w.heap.size + 1 + 1) [.string ms, .string uri, .int .i64 code, .string rsn, .slice (some ⟨g, 0, none⟩) (n + 1 : Nat) cap, .slice none 0 0] _ rfl (S9.out.row (i := 0) rfl).range Tryz.underlying51 rfl (size6m _ _ _ _ _ _)) rfl (by exact ⟨g, cap, rfl, S9.out.bw, S9.out.fact (i := 0) rfl, by have := LT.out; omega⟩)
set_option maxRecDepth 100000 in
set_option maxHeartbeats 4000000 in
theorem headers_min (ms uri rsn : ByteArray) (code N z : Int) (cl : Bool) (A : Option Addr) (n c : Nat) (l : List (ByteArray × ByteArray)) (w : World) (hA : Rds w w.heap.size A (hds l)) (hn : l.length = n) (hN : n ≤ 16000000) (hl : ∀ h ∈ l, h.1.size ≤ 4000000) (hS : SC w) (hP : PT w) (z0 : 90 ≤ N) (z1 : N ≤ 86400) (h0 : getH l (byteL MINB) = none) :
    Calls Tryz.prog 24 #[.agg #[.int .i64 422, .int .i64 N, .int .i64 z, .bool cl], .agg #[.string ms, .string uri, .int .i64 code, .string rsn, .slice A n c, .slice none 0 0]] w fun e w' => ∃ g cap, e = .returned (.agg #[.string ms, .string uri, .int .i64 code, .string rsn, .slice (some ⟨g, 0, none⟩) (n + 1 : Nat) cap, .slice none 0 0]) ∧ Below w.heap.size w w' ∧ Rds w' w'.heap.size (some ⟨g, 0, none⟩) (hds (setL l MINB (strOfNums (decL N)))) ∧ w.heap.size ≤ g := by
  have HA := Lib.hid hA; have HN := Lib.hid hn; have HL := Lib.hid hl; have HS := Lib.hid hS; have HP := Lib.hid hP; have H0 := Lib.hid h0
  have SN := Lib.hid (fun ms uri rsn v code A n c l w a b d e f g => set_none ms uri rsn MINB v code A n c l w a b d e (by decide) f g)
  clear hA hn hl hS hP h0
  have ST := Lib.hid (Mine.refl w)
  go_enter Tryz.func24, Tryz.ntmps24
  go_upto_region 1 with (fail)
  replace ST := Lib.hid (show Mine w (((w.alloc (.cells #[.int .i64 422, .int .i64 N, .int .i64 z, .bool cl] 25)).alloc (.cells #[.string ms, .string uri, .int .i64 code, .string rsn, .slice A n c, .slice none 0 0] 51)).alloc (.cells #[.string ⟨#[]⟩, .string ⟨#[]⟩, .int .i64 0, .string ⟨#[]⟩, .slice none 0 0, .slice none 0 0] 51)) [(w.heap.size + 1 + 1, 51, [.string ⟨#[]⟩, .string ⟨#[]⟩, .int .i64 0, .string ⟨#[]⟩, .slice none 0 0, .slice none 0 0]), (w.heap.size + 1, 51, [.string ms, .string uri, .int .i64 code, .string rsn, .slice A n c, .slice none 0 0]), (w.heap.size, 25, [.int .i64 422, .int .i64 N, .int .i64 z, .bool cl])] [] by
    have h := ((ST.out.alloc 25 [.int .i64 422, .int .i64 N, .int .i64 z, .bool cl]).alloc 51 [.string ms, .string uri, .int .i64 code, .string rsn, .slice A n c, .slice none 0 0]).alloc 51 [.string ⟨#[]⟩, .string ⟨#[]⟩, .int .i64 0, .string ⟨#[]⟩, .slice none 0 0, .slice none 0 0]
    rw [World.size_alloc, World.size_alloc] at h
    exact h)
  generalize (((w.alloc (.cells #[.int .i64 422, .int .i64 N, .int .i64 z, .bool cl] 25)).alloc (.cells #[.string ms, .string uri, .int .i64 code, .string rsn, .slice A n c, .slice none 0 0] 51)).alloc (.cells #[.string ⟨#[]⟩, .string ⟨#[]⟩, .int .i64 0, .string ⟨#[]⟩, .slice none 0 0, .slice none 0 0] 51)) = W at *
  have k0 := (ST.out.row (i := 2) rfl).cell 0
  have k2 := (ST.out.row (i := 2) rfl).cell 2
  have k3 := (ST.out.row (i := 2) rfl).cell 3
  simp only [List.getElem?_cons_succ, List.getElem?_cons_zero] at k0 k2 k3
  go_upto_region 2 with (fail)
  clear k0 k2 k3
  have RM := Lib.hid (ST.out.row (i := 1) rfl)
  have RA := Lib.hid (ST.out.row (i := 2) rfl)
  have PP := Lib.hid (HP.out.below ST.out.bw)
  have q := fun x : BW W => RA.out.later x 1
  simp only [List.getElem?_cons_succ, List.getElem?_cons_zero] at q
  refine region_bwt 4 (by kernel_rfl) (by kernel_rfl) ?_
  simp only [List.take_succ_cons, List.take_zero, List.drop_succ_cons, List.drop_zero]
  go_big_quiet_want
  refine quiet_load 51 (.tmp 3) rfl (w.heap.size + 1) rfl [.string ms, .string uri, .int .i64 code, .string rsn, .slice A n c, .slice none 0 0] 51 _ RM.out Tryz.underlying51 rfl (size6m _ _ _ _ _ _) ?_
  simp only [Act.put, List.setIfInBounds_toArray, List.set_cons_zero, List.set_cons_succ]
  go_big_quiet_on
  iterate 2 go_big_quiet_step (fail)
  go_big_quiet_step (exact calls_bw (itoa_any N _ (by omega) (by omega) (PP.out.below (BW.h _))))
  refine wpQuiet_nil ?_
  rintro _ ⟨x, rfl⟩
  replace ST := Lib.hid (ST.out.call x.h)
  generalize x.w = W1 at *
  clear q RM RA PP x
  go_wp2_with fail
  refine (SN.out ms uri rsn (strOfNums (decL N)) code A n c l _ ((HA.out.below ST.out.bw).up ST.out.bw.size) HN.out hN HL.out (HS.out.below ST.out.bw) H0.out).mono ?_
  rintro e W2 ⟨g, cap, rfl, hbl, hrd, hge⟩
  have LT := Lib.hid (show w.heap.size + 1 + 1 < g from Nat.lt_of_lt_of_le (ST.out.row (i := 0) rfl).lt hge)
  replace ST := Lib.hid ((ST.out.call hbl).add (stab_rds hrd (fun b o s e => by
    injection e with e
    injection e with e
    have := LT.out
    simp only [List.map_cons, List.map_nil, List.mem_cons, List.not_mem_nil, or_false]
    omega)))
  clear hbl hrd hge
  go_wp2_with (with_reducible refine wpList_storeS ST.out 0 rfl 51 (.tmp 4) (.tmp 14) rfl [.string ms, .string uri, .int .i64 code, .string rsn, .slice (some ⟨g, 0, none⟩) (n + 1 : Nat) cap, .slice none 0 0] [(w.heap.size + 1 + 1, 51, [.string ms, .string uri, .int .i64 code, .string rsn, .slice (some ⟨g, 0, none⟩) (n + 1 : Nat) cap, .slice none 0 0]), (w.heap.size + 1, 51, [.string ms, .string uri, .int .i64 code, .string rsn, .slice A n c, .slice none 0 0]), (w.heap.size, 25, [.int .i64 422, .int .i64 N, .int .i64 z, .bool cl])] rfl rfl rfl rfl (len6m _ _ _ _ _ _ _ _ _ _ _ _) (size6m _ _ _ _ _ _) (msg_one _ _ _ _ _ _) ?_)
  intro w9 S9
  go_wp2_with fail
  exact bodyPost_ret (results_cell rfl _ _ _ (w.heap.size + 1 + 1) [.string ms, .string uri, .int .i64 code, .string rsn, .slice (some ⟨g, 0, none⟩) (n + 1 : Nat) cap, .slice none 0 0] _ rfl (S9.out.row (i := 0) rfl).range Tryz.underlying51 rfl (size6m _ _ _ _ _ _)) rfl (by exact ⟨g, cap, rfl, S9.out.bw, S9.out.fact (i := 0) rfl, by have := LT.out; omega⟩)
end Go.Proofs.YtcnkjgjimcddiaaGreatDoor
namespace Go.Proofs.YtcnkjgjimcddiaaGreatDoor
open Go.RowKit

abbrev CIDN : ByteArray := ⟨#[67, 97, 108, 108, 45, 73, 68]⟩
abbrev CCV : ByteArray := ⟨#[99]⟩
def LH0 : List (ByteArray × ByteArray) := [(CIDN, CCV)]
theorem LH0_sz : ∀ h ∈ LH0, h.1.size ≤ 4000000 := by
  intro h hm
  obtain rfl := List.mem_singleton.1 hm
  decide
theorem LH0_ok : HdOK LH0 1 := HdOK.of rfl (by decide) (by
  intro h hm
  obtain rfl := List.mem_singleton.1 hm
  exact ⟨by decide, by decide, by kernel_rfl, by kernel_rfl⟩) (by decide +kernel)
theorem LH0_exp : getH LH0 (byteL EXPN) = none := by kernel_rfl
theorem LH0_min : getH LH0 (byteL MINB) = none := by kernel_rfl
theorem LH0_e : (foundL LH0 SEXP).e = 0 := by kernel_rfl
theorem LH0_told : toldL LH0 = ⟨0, 0, 0, false, 0⟩ := by kernel_rfl
theorem LH1_eq (v : ByteArray) : setL LH0 EXPN v = [(CIDN, CCV), (EXPN, v)] := by
  unfold setL
  rw [show fullS EXPN = EXPN by kernel_rfl]
  rfl
theorem LH2_eq (v : ByteArray) : setL LH0 MINB v = [(CIDN, CCV), (MINB, v)] := by
  unfold setL
  rw [show fullS MINB = MINB by kernel_rfl]
  rfl
theorem two_ok {a v : ByteArray} (ha : a.size ≤ 4000000) (hv : v.size ≤ 4000000) (h : ∀ x ∈ byteL v, x ≠ 34 ∧ x ≠ 60 ∧ x ≠ 62 ∧ x ≠ 44 ∧ x ≠ 91) : HdOK [(CIDN, CCV), (a, v)] 2 := by
  have h1 : (elemsL (byteL v)).length = 1 := elems_one _ fun x hx => ⟨(h x hx).1, (h x hx).2.1, (h x hx).2.2.1, (h x hx).2.2.2.1⟩
  refine HdOK.of rfl (by decide) (fun q hq => ?_) ?_
  · rcases List.mem_cons.1 hq with rfl | hq
    · exact ⟨by decide, by decide, by kernel_rfl, by kernel_rfl⟩
    · obtain rfl := List.mem_singleton.1 hq
      refine ⟨ha, hv, ?_, ?_⟩
      · cases he : elemsL (byteL v) with
        | nil => rw [he] at h1; cases h1
        | cons x l => rfl
      · rw [List.contains_eq_mem]
        exact decide_eq_false fun hm => (h 91 hm).2.2.2.2 rfl
  · simp only [List.map_cons, List.map_nil, List.sum_cons, List.sum_nil, h1]
    have : (elemsL (byteL CCV)).length = 1 := by kernel_rfl
    omega
theorem LH1_ok {S : Int} (z0 : 0 ≤ S) (z1 : S ≤ 86400) (c : Bool) : HdOK (setL LH0 EXPN (hdrV S c)) 2 := by
  rw [LH1_eq]
  exact two_ok (by decide) (Nat.le_trans (hdrV_size z0 z1 c) (by decide)) (by rw [byteL_hdrV]; exact hdrV_chars z0 c)
theorem LH2_ok {S : Int} (z0 : 0 ≤ S) (z1 : S ≤ 86400) : HdOK (setL LH0 MINB (strOfNums (decL S))) 2 := by
  rw [LH2_eq]
  obtain ⟨n, rfl⟩ := dec_nat z0
  have h := dec_len n 4 (by omega)
  refine two_ok (by decide) (by rw [num_size]; omega) ?_
  rw [byteL_str (decL_by _)]
  exact fun x hx => hdrV_chars z0 true x (List.mem_append_left _ hx)
theorem LH1_found {S : Int} (z0 : 0 ≤ S) (z1 : S ≤ 86400) (c : Bool) : foundL (setL LH0 EXPN (hdrV S c)) SEXP = ⟨true, S, RPM c, 0⟩ := by
  rw [LH1_eq]
  obtain ⟨n, rfl⟩ := dec_nat z0
  unfold foundL
  have hg : getH [(CIDN, CCV), (EXPN, hdrV n c)] SEXP = some 1 := by
    unfold getH
    rw [List.findIdx?_cons, if_neg (by rw [show hitN (canonL SEXP) (CIDN, CCV) = false by kernel_rfl]; decide), List.findIdx?_cons, if_pos (show hitN (canonL SEXP) (EXPN, hdrV n c) = true from show eqN (canonL (byteL EXPN)) (canonL SEXP) = true by kernel_rfl)]
    rfl
  rw [hg]
  dsimp only
  rw [show ([(CIDN, CCV), (EXPN, hdrV (n : Int) c)].getD 1 (⟨#[]⟩, ⟨#[]⟩)).2 = hdrV n c from rfl, byteL_hdrV, found_dec n c (by omega)]
theorem LH2_found (v : ByteArray) : foundL (setL LH0 MINB v) SEXP = ⟨false, 0, [], 0⟩ := by
  rw [LH2_eq]
  unfold foundL
  have hg : getH [(CIDN, CCV), (MINB, v)] SEXP = none := by
    unfold getH
    rw [List.findIdx?_cons, if_neg (by rw [show hitN (canonL SEXP) (CIDN, CCV) = false by kernel_rfl]; decide), List.findIdx?_cons, if_neg (by rw [show hitN (canonL SEXP) (MINB, v) = false from show eqN (canonL (byteL MINB)) (canonL SEXP) = false by kernel_rfl]; decide)]
    rfl
  rw [hg]
theorem LH1_e {S : Int} (z0 : 0 ≤ S) (z1 : S ≤ 86400) (c : Bool) : (foundL (setL LH0 EXPN (hdrV S c)) SEXP).e = 0 := by rw [LH1_found z0 z1]
theorem LH2_e {S : Int} (_ : 0 ≤ S) (_ : S ≤ 86400) : (foundL (setL LH0 MINB (strOfNums (decL S))) SEXP).e = 0 := by rw [LH2_found]
theorem LH1_told {S : Int} (z0 : 90 ≤ S) (z1 : S ≤ 86400) (c : Bool) : toldL (setL LH0 EXPN (hdrV S c)) = ⟨0, 0, S, c, 0⟩ := by
  unfold toldL
  rw [LH1_found (by omega) z1 c]
  dsimp only
  rw [if_neg (by decide), if_neg (by unfold ivl; simp; omega)]
  cases c <;> rfl
theorem LH2_told {S : Int} (_ : 0 ≤ S) (_ : S ≤ 86400) : toldL (setL LH0 MINB (strOfNums (decL S))) = ⟨0, 0, 0, false, 0⟩ := by
  unfold toldL
  rw [LH2_found]
  rfl
set_option maxRecDepth 100000 in
set_option maxHeartbeats 8000000 in
theorem told_yes (S sec : Int) (rsn : ByteArray) (w : World) (hE : 90 + sec % 86311 = S) (c0 : 0 ≤ sec) (c1 : sec ≤ 4294967295) (z0 : 90 ≤ S) (z1 : S ≤ 86400) (hS : SC w) (hK : KD w) (hP : PT w) :
    Calls Tryz.prog 7 #[.int .u32 sec, .bool true, .string rsn] w fun e w' => e = .returned (.bool true) ∧ Below w.heap.size w w' := by
  have HS := Lib.hid hS; have HK := Lib.hid hK; have HE := Lib.hid hE; have HP := Lib.hid hP
  clear hS hK hE hP
  have ST := Lib.hid (Mine.refl w)
  go_enter Tryz.func7, Tryz.ntmps7
  go_upto_region 2 with (fail)
  have hE2 := HE.out
  simp only [hE2] at *
  clear hE2
  replace ST := Lib.hid ((show Mine w (w.alloc (.cells #[.int .i64 0, .int .i64 0, .int .i64 S, .bool true] 25)) ((w.heap.size, 25, [.int .i64 0, .int .i64 0, .int .i64 S, .bool true]) :: []) _ from ST.out.alloc 25 [.int .i64 0, .int .i64 0, .int .i64 S, .bool true]).rest)
  generalize w.alloc (.cells #[.int .i64 0, .int .i64 0, .int .i64 S, .bool true] 25) = Y1 at *
  generalize w.heap.size = b1 at *
  go_upto_region 3 with (fail)
  replace ST := Lib.hid ((show Mine w (Y1.alloc (.cells #[.string CIDN, .string CCV] 45)) ((Y1.heap.size, 45, [.string CIDN, .string CCV]) :: []) _ from ST.out.alloc 45 [.string CIDN, .string CCV]).rest)
  have HB := Lib.hid (show (Y1.alloc (.cells #[.string CIDN, .string CCV] 45)).heap.size = Y1.heap.size + 1 by simp)
  replace ST := Lib.hid ((show Mine w ((Y1.alloc (.cells #[.string CIDN, .string CCV] 45)).alloc (.cells #[.string ⟨#[]⟩, .string ⟨#[]⟩, .int .i64 200, .string rsn, .slice (some ⟨Y1.heap.size, 0, none⟩) 1 1, .slice none 0 0] 51)) ((Y1.heap.size + 1, 51, [.string ⟨#[]⟩, .string ⟨#[]⟩, .int .i64 200, .string rsn, .slice (some ⟨Y1.heap.size, 0, none⟩) 1 1, .slice none 0 0]) :: []) _ by rw [← HB.out]; exact ST.out.alloc 51 [.string ⟨#[]⟩, .string ⟨#[]⟩, .int .i64 200, .string rsn, .slice (some ⟨Y1.heap.size, 0, none⟩) 1 1, .slice none 0 0]).rest)
  clear HB
  generalize (Y1.alloc (.cells #[.string CIDN, .string CCV] 45)).alloc (.cells #[.string ⟨#[]⟩, .string ⟨#[]⟩, .int .i64 200, .string rsn, .slice (some ⟨Y1.heap.size, 0, none⟩) 1 1, .slice none 0 0] 51) = Y2 at *
  generalize Y1.heap.size = b2 at *
  go_wp2_with (first | (with_reducible refine wpList_loadR rfl 25 (.tmp 7) rfl (show Row _ b1 25 [.int .i64 0, .int .i64 0, .int .i64 S, .bool true] from ST.out.fact (i := 2) rfl) rfl Tryz.underlying25 rfl (sizeAg _ _ _ _) ?_) | (with_reducible refine wpList_loadR rfl 51 (.tmp 8) rfl (show Row _ (b2 + 1) 51 [.string ⟨#[]⟩, .string ⟨#[]⟩, .int .i64 200, .string rsn, .slice (some ⟨b2, 0, none⟩) 1 1, .slice none 0 0] from ST.out.fact (i := 0) rfl) rfl Tryz.underlying51 rfl (size6m _ _ _ _ _ _) ?_))
  refine (headers_uac ⟨#[]⟩ ⟨#[]⟩ rsn 200 S 0 true (some ⟨b2, 0, none⟩) 1 1 LH0 _ (fun _ => ⟨b2, 0, rfl, (show Row _ b2 45 [.string CIDN, .string CCV] from ST.out.fact (i := 1) rfl).lt, fun j u hu => by rw [Nat.zero_add, (show Row _ b2 45 [.string CIDN, .string CCV] from ST.out.fact (i := 1) rfl).cell]; exact hu⟩) rfl (by decide) LH0_sz (HS.out.below ST.out.bw) (HP.out.below ST.out.bw) z0 z1 LH0_exp).mono ?_
  rintro e X3 ⟨g3, c3, rfl, hbl, hrd, _⟩
  rw [show (1 + 1 : Nat) = 2 from rfl]
  replace ST := Lib.hid ((ST.out.call hbl).add (stab_rds hrd (fun _ _ _ _ => by simp)))
  clear hbl hrd
  go_upto_region 4 with (fail)
  replace ST := Lib.hid ((show Mine w (X3.alloc (.cells #[.string ⟨#[]⟩, .string ⟨#[]⟩, .int .i64 200, .string rsn, .slice (some ⟨g3, 0, none⟩) 2 c3, .slice none 0 0] 51)) ((X3.heap.size, 51, [.string ⟨#[]⟩, .string ⟨#[]⟩, .int .i64 200, .string rsn, .slice (some ⟨g3, 0, none⟩) 2 c3, .slice none 0 0]) :: []) _ from ST.out.alloc 51 [.string ⟨#[]⟩, .string ⟨#[]⟩, .int .i64 200, .string rsn, .slice (some ⟨g3, 0, none⟩) 2 c3, .slice none 0 0]).rest)
  generalize X3.alloc (.cells #[.string ⟨#[]⟩, .string ⟨#[]⟩, .int .i64 200, .string rsn, .slice (some ⟨g3, 0, none⟩) 2 c3, .slice none 0 0] 51) = Y4 at *
  generalize X3.heap.size = b4 at *
  go_wp2_with (with_reducible refine wpList_loadR rfl 51 (.tmp 9) rfl (show Row _ b4 51 [.string ⟨#[]⟩, .string ⟨#[]⟩, .int .i64 200, .string rsn, .slice (some ⟨g3, 0, none⟩) 2 c3, .slice none 0 0] from ST.out.fact (i := 0) rfl) rfl Tryz.underlying51 rfl (size6m _ _ _ _ _ _) ?_)
  refine (told_any ⟨#[]⟩ ⟨#[]⟩ rsn 200 (some ⟨g3, 0, none⟩) none 2 c3 0 0 (setL LH0 EXPN (hdrV S true)) _ (show Rds _ _ _ _ from ST.out.fact (i := 1) rfl) (LH1_ok (by omega) z1 true) (HS.out.below ST.out.bw) (LH1_e (by omega) z1 true)).mono ?_
  rintro e X5 ⟨rfl, hb⟩
  rw [LH1_told z0 z1 true, show (Ans.mk 0 0 S true 0).v = .tuple #[.agg #[.int .i64 0, .int .i64 0, .int .i64 S, .bool true], .int .u8 0] from rfl]
  replace ST := Lib.hid (ST.out.call hb)
  clear hb
  go_upto_region 5 with (fail)
  replace ST := Lib.hid ((show Mine w (X5.alloc (.cells #[.int .i64 0, .int .i64 0, .int .i64 S, .bool true] 25)) ((X5.heap.size, 25, [.int .i64 0, .int .i64 0, .int .i64 S, .bool true]) :: []) _ from ST.out.alloc 25 [.int .i64 0, .int .i64 0, .int .i64 S, .bool true]).rest)
  generalize X5.alloc (.cells #[.int .i64 0, .int .i64 0, .int .i64 S, .bool true] 25) = Y6 at *
  generalize X5.heap.size = b6 at *
  go_wp2_with (with_reducible refine wpList_loadR rfl 51 (.tmp 8) rfl (show Row _ (b2 + 1) 51 [.string ⟨#[]⟩, .string ⟨#[]⟩, .int .i64 200, .string rsn, .slice (some ⟨b2, 0, none⟩) 1 1, .slice none 0 0] from ST.out.fact (i := 3) rfl) rfl Tryz.underlying51 rfl (size6m _ _ _ _ _ _) ?_)
  refine (told_any ⟨#[]⟩ ⟨#[]⟩ rsn 200 (some ⟨b2, 0, none⟩) none 1 1 0 0 LH0 _ (fun _ => ⟨b2, 0, rfl, (show Row _ b2 45 [.string CIDN, .string CCV] from ST.out.fact (i := 4) rfl).lt, fun j u hu => by rw [Nat.zero_add, (show Row _ b2 45 [.string CIDN, .string CCV] from ST.out.fact (i := 4) rfl).cell]; exact hu⟩) LH0_ok (HS.out.below ST.out.bw) LH0_e).mono ?_
  rintro e X7 ⟨rfl, hb⟩
  rw [LH0_told, show (Ans.mk 0 0 0 false 0).v = .tuple #[.agg #[.int .i64 0, .int .i64 0, .int .i64 0, .bool false], .int .u8 0] from rfl]
  replace ST := Lib.hid (ST.out.call hb)
  clear hb
  go_upto_region 6 with (fail)
  replace ST := Lib.hid ((show Mine w (X7.alloc (.cells #[.int .i64 0, .int .i64 0, .int .i64 0, .bool false] 25)) ((X7.heap.size, 25, [.int .i64 0, .int .i64 0, .int .i64 0, .bool false]) :: []) _ from ST.out.alloc 25 [.int .i64 0, .int .i64 0, .int .i64 0, .bool false]).rest)
  generalize X7.alloc (.cells #[.int .i64 0, .int .i64 0, .int .i64 0, .bool false] 25) = Y8 at *
  generalize X7.heap.size = b8 at *
  have k7_2 := (show Row _ b1 25 [.int .i64 0, .int .i64 0, .int .i64 S, .bool true] from ST.out.fact (i := 6) rfl).cell 2
  simp only [List.getElem?_cons_succ, List.getElem?_cons_zero] at k7_2
  go_wp2_with (with_reducible refine wpList_loadR rfl 51 (.tmp 8) rfl (show Row _ (b2 + 1) 51 [.string ⟨#[]⟩, .string ⟨#[]⟩, .int .i64 200, .string rsn, .slice (some ⟨b2, 0, none⟩) 1 1, .slice none 0 0] from ST.out.fact (i := 4) rfl) rfl Tryz.underlying51 rfl (size6m _ _ _ _ _ _) ?_)
  refine (headers_min ⟨#[]⟩ ⟨#[]⟩ rsn 200 S 0 false (some ⟨b2, 0, none⟩) 1 1 LH0 _ (fun _ => ⟨b2, 0, rfl, (show Row _ b2 45 [.string CIDN, .string CCV] from ST.out.fact (i := 5) rfl).lt, fun j u hu => by rw [Nat.zero_add, (show Row _ b2 45 [.string CIDN, .string CCV] from ST.out.fact (i := 5) rfl).cell]; exact hu⟩) rfl (by decide) LH0_sz (HS.out.below ST.out.bw) (HP.out.below ST.out.bw) z0 z1 LH0_min).mono ?_
  rintro e X9 ⟨g9, c9, rfl, hbl, hrd, _⟩
  rw [show (1 + 1 : Nat) = 2 from rfl]
  replace ST := Lib.hid ((ST.out.call hbl).add (stab_rds hrd (fun _ _ _ _ => by simp)))
  clear hbl hrd
  go_upto_region 7 with (fail)
  replace ST := Lib.hid ((show Mine w (X9.alloc (.cells #[.string ⟨#[]⟩, .string ⟨#[]⟩, .int .i64 200, .string rsn, .slice (some ⟨g9, 0, none⟩) 2 c9, .slice none 0 0] 51)) ((X9.heap.size, 51, [.string ⟨#[]⟩, .string ⟨#[]⟩, .int .i64 200, .string rsn, .slice (some ⟨g9, 0, none⟩) 2 c9, .slice none 0 0]) :: []) _ from ST.out.alloc 51 [.string ⟨#[]⟩, .string ⟨#[]⟩, .int .i64 200, .string rsn, .slice (some ⟨g9, 0, none⟩) 2 c9, .slice none 0 0]).rest)
  generalize X9.alloc (.cells #[.string ⟨#[]⟩, .string ⟨#[]⟩, .int .i64 200, .string rsn, .slice (some ⟨g9, 0, none⟩) 2 c9, .slice none 0 0] 51) = Y10 at *
  generalize X9.heap.size = b10 at *
  go_wp2_with (with_reducible refine wpList_loadR rfl 51 (.tmp 14) rfl (show Row _ b10 51 [.string ⟨#[]⟩, .string ⟨#[]⟩, .int .i64 200, .string rsn, .slice (some ⟨g9, 0, none⟩) 2 c9, .slice none 0 0] from ST.out.fact (i := 0) rfl) rfl Tryz.underlying51 rfl (size6m _ _ _ _ _ _) ?_)
  refine (told_any ⟨#[]⟩ ⟨#[]⟩ rsn 200 (some ⟨g9, 0, none⟩) none 2 c9 0 0 (setL LH0 MINB (strOfNums (decL S))) _ (show Rds _ _ _ _ from ST.out.fact (i := 1) rfl) (LH2_ok (by omega) z1) (HS.out.below ST.out.bw) (LH2_e (by omega) z1)).mono ?_
  rintro e X11 ⟨rfl, hb⟩
  rw [LH2_told (by omega) z1, show (Ans.mk 0 0 0 false 0).v = .tuple #[.agg #[.int .i64 0, .int .i64 0, .int .i64 0, .bool false], .int .u8 0] from rfl]
  replace ST := Lib.hid (ST.out.call hb)
  clear hb
  go_upto_region 8 with (fail)
  replace ST := Lib.hid ((show Mine w (X11.alloc (.cells #[.int .i64 0, .int .i64 0, .int .i64 0, .bool false] 25)) ((X11.heap.size, 25, [.int .i64 0, .int .i64 0, .int .i64 0, .bool false]) :: []) _ from ST.out.alloc 25 [.int .i64 0, .int .i64 0, .int .i64 0, .bool false]).rest)
  generalize X11.alloc (.cells #[.int .i64 0, .int .i64 0, .int .i64 0, .bool false] 25) = Y12 at *
  generalize X11.heap.size = b12 at *
  have k7_0 := (show Row _ b1 25 [.int .i64 0, .int .i64 0, .int .i64 S, .bool true] from ST.out.fact (i := 9) rfl).cell 0; have k7_1 := (show Row _ b1 25 [.int .i64 0, .int .i64 0, .int .i64 S, .bool true] from ST.out.fact (i := 9) rfl).cell 1; have k7_2 := (show Row _ b1 25 [.int .i64 0, .int .i64 0, .int .i64 S, .bool true] from ST.out.fact (i := 9) rfl).cell 2; have k7_3 := (show Row _ b1 25 [.int .i64 0, .int .i64 0, .int .i64 S, .bool true] from ST.out.fact (i := 9) rfl).cell 3
  simp only [List.getElem?_cons_succ, List.getElem?_cons_zero] at k7_0 k7_1 k7_2 k7_3
  have k10_0 := (show Row _ b6 25 [.int .i64 0, .int .i64 0, .int .i64 S, .bool true] from ST.out.fact (i := 4) rfl).cell 0; have k10_1 := (show Row _ b6 25 [.int .i64 0, .int .i64 0, .int .i64 S, .bool true] from ST.out.fact (i := 4) rfl).cell 1; have k10_2 := (show Row _ b6 25 [.int .i64 0, .int .i64 0, .int .i64 S, .bool true] from ST.out.fact (i := 4) rfl).cell 2; have k10_3 := (show Row _ b6 25 [.int .i64 0, .int .i64 0, .int .i64 S, .bool true] from ST.out.fact (i := 4) rfl).cell 3
  simp only [List.getElem?_cons_succ, List.getElem?_cons_zero] at k10_0 k10_1 k10_2 k10_3
  have k12_0 := (show Row _ b8 25 [.int .i64 0, .int .i64 0, .int .i64 0, .bool false] from ST.out.fact (i := 3) rfl).cell 0; have k12_1 := (show Row _ b8 25 [.int .i64 0, .int .i64 0, .int .i64 0, .bool false] from ST.out.fact (i := 3) rfl).cell 1; have k12_2 := (show Row _ b8 25 [.int .i64 0, .int .i64 0, .int .i64 0, .bool false] from ST.out.fact (i := 3) rfl).cell 2; have k12_3 := (show Row _ b8 25 [.int .i64 0, .int .i64 0, .int .i64 0, .bool false] from ST.out.fact (i := 3) rfl).cell 3
  simp only [List.getElem?_cons_succ, List.getElem?_cons_zero] at k12_0 k12_1 k12_2 k12_3
  have k15_0 := (show Row _ b12 25 [.int .i64 0, .int .i64 0, .int .i64 0, .bool false] from ST.out.fact (i := 0) rfl).cell 0; have k15_1 := (show Row _ b12 25 [.int .i64 0, .int .i64 0, .int .i64 0, .bool false] from ST.out.fact (i := 0) rfl).cell 1; have k15_2 := (show Row _ b12 25 [.int .i64 0, .int .i64 0, .int .i64 0, .bool false] from ST.out.fact (i := 0) rfl).cell 2; have k15_3 := (show Row _ b12 25 [.int .i64 0, .int .i64 0, .int .i64 0, .bool false] from ST.out.fact (i := 0) rfl).cell 3
  simp only [List.getElem?_cons_succ, List.getElem?_cons_zero] at k15_0 k15_1 k15_2 k15_3
  have k9_3 := (show Row _ b4 51 [.string ⟨#[]⟩, .string ⟨#[]⟩, .int .i64 200, .string rsn, .slice (some ⟨g3, 0, none⟩) 2 c3, .slice none 0 0] from ST.out.fact (i := 5) rfl).cell 3; have k9_4 := (show Row _ b4 51 [.string ⟨#[]⟩, .string ⟨#[]⟩, .int .i64 200, .string rsn, .slice (some ⟨g3, 0, none⟩) 2 c3, .slice none 0 0] from ST.out.fact (i := 5) rfl).cell 4
  simp only [List.getElem?_cons_succ, List.getElem?_cons_zero] at k9_3 k9_4
  have k14_4 := (show Row _ b10 51 [.string ⟨#[]⟩, .string ⟨#[]⟩, .int .i64 200, .string rsn, .slice (some ⟨g9, 0, none⟩) 2 c9, .slice none 0 0] from ST.out.fact (i := 1) rfl).cell 4
  simp only [List.getElem?_cons_succ, List.getElem?_cons_zero] at k14_4
  have hg := guardA; have sA := sameA; have rr : (rsn.toList == rsn.toList) = true := by simp
  have hse : ∀ (xs ys : Array Value) (w : World), (binOp .eql 25 (.agg xs) (.agg ys)).run Tryz.prog w = ((Op.equalIn 10000 25 (.agg xs) (.agg ys)).run Tryz.prog w).andThen fun b w' => .ok (.bool b) w' := fun xs ys w => run_eql_struct w _ xs ys
  go_wp2_with (go_at_call 18; refine (works19_any _ (HS.out.below ST.out.bw) (HK.out.below ST.out.bw)).mono ?_; rintro e W9 ⟨rfl, hb9⟩; replace ST := Lib.hid (ST.out.call hb9); clear hb9)
  go_ret
  exact ⟨rfl, ST.out.bw⟩
set_option maxRecDepth 100000 in
set_option maxHeartbeats 8000000 in
theorem told_no (S sec : Int) (rsn : ByteArray) (w : World) (hE : 90 + sec % 86311 = S) (c0 : 0 ≤ sec) (c1 : sec ≤ 4294967295) (z0 : 90 ≤ S) (z1 : S ≤ 86400) (hS : SC w) (hK : KD w) (hP : PT w) :
    Calls Tryz.prog 7 #[.int .u32 sec, .bool false, .string rsn] w fun e w' => e = .returned (.bool true) ∧ Below w.heap.size w w' := by
  have HS := Lib.hid hS; have HK := Lib.hid hK; have HE := Lib.hid hE; have HP := Lib.hid hP
  clear hS hK hE hP
  have ST := Lib.hid (Mine.refl w)
  go_enter Tryz.func7, Tryz.ntmps7
  go_upto_region 2 with (fail)
  have hE2 := HE.out
  simp only [hE2] at *
  clear hE2
  replace ST := Lib.hid ((show Mine w (w.alloc (.cells #[.int .i64 0, .int .i64 0, .int .i64 S, .bool false] 25)) ((w.heap.size, 25, [.int .i64 0, .int .i64 0, .int .i64 S, .bool false]) :: []) _ from ST.out.alloc 25 [.int .i64 0, .int .i64 0, .int .i64 S, .bool false]).rest)
  generalize w.alloc (.cells #[.int .i64 0, .int .i64 0, .int .i64 S, .bool false] 25) = Y1 at *
  generalize w.heap.size = b1 at *
  go_upto_region 3 with (fail)
  replace ST := Lib.hid ((show Mine w (Y1.alloc (.cells #[.string CIDN, .string CCV] 45)) ((Y1.heap.size, 45, [.string CIDN, .string CCV]) :: []) _ from ST.out.alloc 45 [.string CIDN, .string CCV]).rest)
  have HB := Lib.hid (show (Y1.alloc (.cells #[.string CIDN, .string CCV] 45)).heap.size = Y1.heap.size + 1 by simp)
  replace ST := Lib.hid ((show Mine w ((Y1.alloc (.cells #[.string CIDN, .string CCV] 45)).alloc (.cells #[.string ⟨#[]⟩, .string ⟨#[]⟩, .int .i64 200, .string rsn, .slice (some ⟨Y1.heap.size, 0, none⟩) 1 1, .slice none 0 0] 51)) ((Y1.heap.size + 1, 51, [.string ⟨#[]⟩, .string ⟨#[]⟩, .int .i64 200, .string rsn, .slice (some ⟨Y1.heap.size, 0, none⟩) 1 1, .slice none 0 0]) :: []) _ by rw [← HB.out]; exact ST.out.alloc 51 [.string ⟨#[]⟩, .string ⟨#[]⟩, .int .i64 200, .string rsn, .slice (some ⟨Y1.heap.size, 0, none⟩) 1 1, .slice none 0 0]).rest)
  clear HB
  generalize (Y1.alloc (.cells #[.string CIDN, .string CCV] 45)).alloc (.cells #[.string ⟨#[]⟩, .string ⟨#[]⟩, .int .i64 200, .string rsn, .slice (some ⟨Y1.heap.size, 0, none⟩) 1 1, .slice none 0 0] 51) = Y2 at *
  generalize Y1.heap.size = b2 at *
  go_wp2_with (first | (with_reducible refine wpList_loadR rfl 25 (.tmp 7) rfl (show Row _ b1 25 [.int .i64 0, .int .i64 0, .int .i64 S, .bool false] from ST.out.fact (i := 2) rfl) rfl Tryz.underlying25 rfl (sizeAg _ _ _ _) ?_) | (with_reducible refine wpList_loadR rfl 51 (.tmp 8) rfl (show Row _ (b2 + 1) 51 [.string ⟨#[]⟩, .string ⟨#[]⟩, .int .i64 200, .string rsn, .slice (some ⟨b2, 0, none⟩) 1 1, .slice none 0 0] from ST.out.fact (i := 0) rfl) rfl Tryz.underlying51 rfl (size6m _ _ _ _ _ _) ?_))
  refine (headers_uas ⟨#[]⟩ ⟨#[]⟩ rsn 200 S 0 true (some ⟨b2, 0, none⟩) 1 1 LH0 _ (fun _ => ⟨b2, 0, rfl, (show Row _ b2 45 [.string CIDN, .string CCV] from ST.out.fact (i := 1) rfl).lt, fun j u hu => by rw [Nat.zero_add, (show Row _ b2 45 [.string CIDN, .string CCV] from ST.out.fact (i := 1) rfl).cell]; exact hu⟩) rfl (by decide) LH0_sz (HS.out.below ST.out.bw) (HP.out.below ST.out.bw) z0 z1 LH0_exp).mono ?_
  rintro e X3 ⟨g3, c3, rfl, hbl, hrd, _⟩
  rw [show (1 + 1 : Nat) = 2 from rfl]
  replace ST := Lib.hid ((ST.out.call hbl).add (stab_rds hrd (fun _ _ _ _ => by simp)))
  clear hbl hrd
  go_upto_region 4 with (fail)
  replace ST := Lib.hid ((show Mine w (X3.alloc (.cells #[.string ⟨#[]⟩, .string ⟨#[]⟩, .int .i64 200, .string rsn, .slice (some ⟨g3, 0, none⟩) 2 c3, .slice none 0 0] 51)) ((X3.heap.size, 51, [.string ⟨#[]⟩, .string ⟨#[]⟩, .int .i64 200, .string rsn, .slice (some ⟨g3, 0, none⟩) 2 c3, .slice none 0 0]) :: []) _ from ST.out.alloc 51 [.string ⟨#[]⟩, .string ⟨#[]⟩, .int .i64 200, .string rsn, .slice (some ⟨g3, 0, none⟩) 2 c3, .slice none 0 0]).rest)
  generalize X3.alloc (.cells #[.string ⟨#[]⟩, .string ⟨#[]⟩, .int .i64 200, .string rsn, .slice (some ⟨g3, 0, none⟩) 2 c3, .slice none 0 0] 51) = Y4 at *
  generalize X3.heap.size = b4 at *
  go_wp2_with (with_reducible refine wpList_loadR rfl 51 (.tmp 9) rfl (show Row _ b4 51 [.string ⟨#[]⟩, .string ⟨#[]⟩, .int .i64 200, .string rsn, .slice (some ⟨g3, 0, none⟩) 2 c3, .slice none 0 0] from ST.out.fact (i := 0) rfl) rfl Tryz.underlying51 rfl (size6m _ _ _ _ _ _) ?_)
  refine (told_any ⟨#[]⟩ ⟨#[]⟩ rsn 200 (some ⟨g3, 0, none⟩) none 2 c3 0 0 (setL LH0 EXPN (hdrV S false)) _ (show Rds _ _ _ _ from ST.out.fact (i := 1) rfl) (LH1_ok (by omega) z1 false) (HS.out.below ST.out.bw) (LH1_e (by omega) z1 false)).mono ?_
  rintro e X5 ⟨rfl, hb⟩
  rw [LH1_told z0 z1 false, show (Ans.mk 0 0 S false 0).v = .tuple #[.agg #[.int .i64 0, .int .i64 0, .int .i64 S, .bool false], .int .u8 0] from rfl]
  replace ST := Lib.hid (ST.out.call hb)
  clear hb
  go_upto_region 5 with (fail)
  replace ST := Lib.hid ((show Mine w (X5.alloc (.cells #[.int .i64 0, .int .i64 0, .int .i64 S, .bool false] 25)) ((X5.heap.size, 25, [.int .i64 0, .int .i64 0, .int .i64 S, .bool false]) :: []) _ from ST.out.alloc 25 [.int .i64 0, .int .i64 0, .int .i64 S, .bool false]).rest)
  generalize X5.alloc (.cells #[.int .i64 0, .int .i64 0, .int .i64 S, .bool false] 25) = Y6 at *
  generalize X5.heap.size = b6 at *
  go_wp2_with (with_reducible refine wpList_loadR rfl 51 (.tmp 8) rfl (show Row _ (b2 + 1) 51 [.string ⟨#[]⟩, .string ⟨#[]⟩, .int .i64 200, .string rsn, .slice (some ⟨b2, 0, none⟩) 1 1, .slice none 0 0] from ST.out.fact (i := 3) rfl) rfl Tryz.underlying51 rfl (size6m _ _ _ _ _ _) ?_)
  refine (told_any ⟨#[]⟩ ⟨#[]⟩ rsn 200 (some ⟨b2, 0, none⟩) none 1 1 0 0 LH0 _ (fun _ => ⟨b2, 0, rfl, (show Row _ b2 45 [.string CIDN, .string CCV] from ST.out.fact (i := 4) rfl).lt, fun j u hu => by rw [Nat.zero_add, (show Row _ b2 45 [.string CIDN, .string CCV] from ST.out.fact (i := 4) rfl).cell]; exact hu⟩) LH0_ok (HS.out.below ST.out.bw) LH0_e).mono ?_
  rintro e X7 ⟨rfl, hb⟩
  rw [LH0_told, show (Ans.mk 0 0 0 false 0).v = .tuple #[.agg #[.int .i64 0, .int .i64 0, .int .i64 0, .bool false], .int .u8 0] from rfl]
  replace ST := Lib.hid (ST.out.call hb)
  clear hb
  go_upto_region 6 with (fail)
  replace ST := Lib.hid ((show Mine w (X7.alloc (.cells #[.int .i64 0, .int .i64 0, .int .i64 0, .bool false] 25)) ((X7.heap.size, 25, [.int .i64 0, .int .i64 0, .int .i64 0, .bool false]) :: []) _ from ST.out.alloc 25 [.int .i64 0, .int .i64 0, .int .i64 0, .bool false]).rest)
  generalize X7.alloc (.cells #[.int .i64 0, .int .i64 0, .int .i64 0, .bool false] 25) = Y8 at *
  generalize X7.heap.size = b8 at *
  have k7_2 := (show Row _ b1 25 [.int .i64 0, .int .i64 0, .int .i64 S, .bool false] from ST.out.fact (i := 6) rfl).cell 2
  simp only [List.getElem?_cons_succ, List.getElem?_cons_zero] at k7_2
  go_wp2_with (with_reducible refine wpList_loadR rfl 51 (.tmp 8) rfl (show Row _ (b2 + 1) 51 [.string ⟨#[]⟩, .string ⟨#[]⟩, .int .i64 200, .string rsn, .slice (some ⟨b2, 0, none⟩) 1 1, .slice none 0 0] from ST.out.fact (i := 4) rfl) rfl Tryz.underlying51 rfl (size6m _ _ _ _ _ _) ?_)
  refine (headers_min ⟨#[]⟩ ⟨#[]⟩ rsn 200 S 0 false (some ⟨b2, 0, none⟩) 1 1 LH0 _ (fun _ => ⟨b2, 0, rfl, (show Row _ b2 45 [.string CIDN, .string CCV] from ST.out.fact (i := 5) rfl).lt, fun j u hu => by rw [Nat.zero_add, (show Row _ b2 45 [.string CIDN, .string CCV] from ST.out.fact (i := 5) rfl).cell]; exact hu⟩) rfl (by decide) LH0_sz (HS.out.below ST.out.bw) (HP.out.below ST.out.bw) z0 z1 LH0_min).mono ?_
  rintro e X9 ⟨g9, c9, rfl, hbl, hrd, _⟩
  rw [show (1 + 1 : Nat) = 2 from rfl]
  replace ST := Lib.hid ((ST.out.call hbl).add (stab_rds hrd (fun _ _ _ _ => by simp)))
  clear hbl hrd
  go_upto_region 7 with (fail)
  replace ST := Lib.hid ((show Mine w (X9.alloc (.cells #[.string ⟨#[]⟩, .string ⟨#[]⟩, .int .i64 200, .string rsn, .slice (some ⟨g9, 0, none⟩) 2 c9, .slice none 0 0] 51)) ((X9.heap.size, 51, [.string ⟨#[]⟩, .string ⟨#[]⟩, .int .i64 200, .string rsn, .slice (some ⟨g9, 0, none⟩) 2 c9, .slice none 0 0]) :: []) _ from ST.out.alloc 51 [.string ⟨#[]⟩, .string ⟨#[]⟩, .int .i64 200, .string rsn, .slice (some ⟨g9, 0, none⟩) 2 c9, .slice none 0 0]).rest)
  generalize X9.alloc (.cells #[.string ⟨#[]⟩, .string ⟨#[]⟩, .int .i64 200, .string rsn, .slice (some ⟨g9, 0, none⟩) 2 c9, .slice none 0 0] 51) = Y10 at *
  generalize X9.heap.size = b10 at *
  go_wp2_with (with_reducible refine wpList_loadR rfl 51 (.tmp 14) rfl (show Row _ b10 51 [.string ⟨#[]⟩, .string ⟨#[]⟩, .int .i64 200, .string rsn, .slice (some ⟨g9, 0, none⟩) 2 c9, .slice none 0 0] from ST.out.fact (i := 0) rfl) rfl Tryz.underlying51 rfl (size6m _ _ _ _ _ _) ?_)
  refine (told_any ⟨#[]⟩ ⟨#[]⟩ rsn 200 (some ⟨g9, 0, none⟩) none 2 c9 0 0 (setL LH0 MINB (strOfNums (decL S))) _ (show Rds _ _ _ _ from ST.out.fact (i := 1) rfl) (LH2_ok (by omega) z1) (HS.out.below ST.out.bw) (LH2_e (by omega) z1)).mono ?_
  rintro e X11 ⟨rfl, hb⟩
  rw [LH2_told (by omega) z1, show (Ans.mk 0 0 0 false 0).v = .tuple #[.agg #[.int .i64 0, .int .i64 0, .int .i64 0, .bool false], .int .u8 0] from rfl]
  replace ST := Lib.hid (ST.out.call hb)
  clear hb
  go_upto_region 8 with (fail)
  replace ST := Lib.hid ((show Mine w (X11.alloc (.cells #[.int .i64 0, .int .i64 0, .int .i64 0, .bool false] 25)) ((X11.heap.size, 25, [.int .i64 0, .int .i64 0, .int .i64 0, .bool false]) :: []) _ from ST.out.alloc 25 [.int .i64 0, .int .i64 0, .int .i64 0, .bool false]).rest)
  generalize X11.alloc (.cells #[.int .i64 0, .int .i64 0, .int .i64 0, .bool false] 25) = Y12 at *
  generalize X11.heap.size = b12 at *
  have k7_0 := (show Row _ b1 25 [.int .i64 0, .int .i64 0, .int .i64 S, .bool false] from ST.out.fact (i := 9) rfl).cell 0; have k7_1 := (show Row _ b1 25 [.int .i64 0, .int .i64 0, .int .i64 S, .bool false] from ST.out.fact (i := 9) rfl).cell 1; have k7_2 := (show Row _ b1 25 [.int .i64 0, .int .i64 0, .int .i64 S, .bool false] from ST.out.fact (i := 9) rfl).cell 2; have k7_3 := (show Row _ b1 25 [.int .i64 0, .int .i64 0, .int .i64 S, .bool false] from ST.out.fact (i := 9) rfl).cell 3
  simp only [List.getElem?_cons_succ, List.getElem?_cons_zero] at k7_0 k7_1 k7_2 k7_3
  have k10_0 := (show Row _ b6 25 [.int .i64 0, .int .i64 0, .int .i64 S, .bool false] from ST.out.fact (i := 4) rfl).cell 0; have k10_1 := (show Row _ b6 25 [.int .i64 0, .int .i64 0, .int .i64 S, .bool false] from ST.out.fact (i := 4) rfl).cell 1; have k10_2 := (show Row _ b6 25 [.int .i64 0, .int .i64 0, .int .i64 S, .bool false] from ST.out.fact (i := 4) rfl).cell 2; have k10_3 := (show Row _ b6 25 [.int .i64 0, .int .i64 0, .int .i64 S, .bool false] from ST.out.fact (i := 4) rfl).cell 3
  simp only [List.getElem?_cons_succ, List.getElem?_cons_zero] at k10_0 k10_1 k10_2 k10_3
  have k12_0 := (show Row _ b8 25 [.int .i64 0, .int .i64 0, .int .i64 0, .bool false] from ST.out.fact (i := 3) rfl).cell 0; have k12_1 := (show Row _ b8 25 [.int .i64 0, .int .i64 0, .int .i64 0, .bool false] from ST.out.fact (i := 3) rfl).cell 1; have k12_2 := (show Row _ b8 25 [.int .i64 0, .int .i64 0, .int .i64 0, .bool false] from ST.out.fact (i := 3) rfl).cell 2; have k12_3 := (show Row _ b8 25 [.int .i64 0, .int .i64 0, .int .i64 0, .bool false] from ST.out.fact (i := 3) rfl).cell 3
  simp only [List.getElem?_cons_succ, List.getElem?_cons_zero] at k12_0 k12_1 k12_2 k12_3
  have k15_0 := (show Row _ b12 25 [.int .i64 0, .int .i64 0, .int .i64 0, .bool false] from ST.out.fact (i := 0) rfl).cell 0; have k15_1 := (show Row _ b12 25 [.int .i64 0, .int .i64 0, .int .i64 0, .bool false] from ST.out.fact (i := 0) rfl).cell 1; have k15_2 := (show Row _ b12 25 [.int .i64 0, .int .i64 0, .int .i64 0, .bool false] from ST.out.fact (i := 0) rfl).cell 2; have k15_3 := (show Row _ b12 25 [.int .i64 0, .int .i64 0, .int .i64 0, .bool false] from ST.out.fact (i := 0) rfl).cell 3
  simp only [List.getElem?_cons_succ, List.getElem?_cons_zero] at k15_0 k15_1 k15_2 k15_3
  have k9_3 := (show Row _ b4 51 [.string ⟨#[]⟩, .string ⟨#[]⟩, .int .i64 200, .string rsn, .slice (some ⟨g3, 0, none⟩) 2 c3, .slice none 0 0] from ST.out.fact (i := 5) rfl).cell 3; have k9_4 := (show Row _ b4 51 [.string ⟨#[]⟩, .string ⟨#[]⟩, .int .i64 200, .string rsn, .slice (some ⟨g3, 0, none⟩) 2 c3, .slice none 0 0] from ST.out.fact (i := 5) rfl).cell 4
  simp only [List.getElem?_cons_succ, List.getElem?_cons_zero] at k9_3 k9_4
  have k14_4 := (show Row _ b10 51 [.string ⟨#[]⟩, .string ⟨#[]⟩, .int .i64 200, .string rsn, .slice (some ⟨g9, 0, none⟩) 2 c9, .slice none 0 0] from ST.out.fact (i := 1) rfl).cell 4
  simp only [List.getElem?_cons_succ, List.getElem?_cons_zero] at k14_4
  have hg := guardA; have sA := sameA; have rr : (rsn.toList == rsn.toList) = true := by simp
  have hse : ∀ (xs ys : Array Value) (w : World), (binOp .eql 25 (.agg xs) (.agg ys)).run Tryz.prog w = ((Op.equalIn 10000 25 (.agg xs) (.agg ys)).run Tryz.prog w).andThen fun b w' => .ok (.bool b) w' := fun xs ys w => run_eql_struct w _ xs ys
  go_wp2_with (go_at_call 18; refine (works19_any _ (HS.out.below ST.out.bw) (HK.out.below ST.out.bw)).mono ?_; rintro e W9 ⟨rfl, hb9⟩; replace ST := Lib.hid (ST.out.call hb9); clear hb9)
  go_ret
  exact ⟨rfl, ST.out.bw⟩
theorem told_law (sec : Int) (c : Bool) (rsn : ByteArray) (w : World) (c0 : 0 ≤ sec) (c1 : sec ≤ 4294967295) (hS : SC w) (hK : KD w) (hP : PT w) :
    Calls Tryz.prog 7 #[.int .u32 sec, .bool c, .string rsn] w fun e w' => e = .returned (.bool true) ∧ Below w.heap.size w w' := by
  have h0 : 0 ≤ sec % 86311 := Int.emod_nonneg _ (by decide)
  have h1 : sec % 86311 < 86311 := Int.emod_lt_of_pos _ (by decide)
  cases c
  · exact told_no (90 + sec % 86311) sec rsn w rfl c0 c1 (by omega) (by omega) hS hK hP
  · exact told_yes (90 + sec % 86311) sec rsn w rfl c0 c1 (by omega) (by omega) hS hK hP
end Go.Proofs.YtcnkjgjimcddiaaGreatDoor
