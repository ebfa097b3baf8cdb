/- Plain words: what a challenge says; the names of its fields. Plain words: what a challenge prints as. Plain words: what credentials say. Plain words: what credentials print as. -/
import Derived.Test.YtfhbpgickkibmaaGreatDoorPf
import Derived.Test.YtfhbpgickkibmaaGreatDoorHb
namespace Go.Proofs.YtfhbpgickkibmaaGreatDoor
open Go.RowKit

structure Ch where
  r : List Int
  n : List Int
  o : List Int
  i : Bool
  s : Bool
def chC (c : Ch) : List Value := [.string (strOfNums c.r), .string (strOfNums c.n), .string (strOfNums c.o), .bool c.i, .bool c.s]
def gotF (l : List (List Int × List Int)) (nm : List Int) : List Int := (getF l nm).getD []
def wordsL (xs : List Int) : List (List Int) := (cutL 44 xs).map trimB
def REALM : List Int := [114, 101, 97, 108, 109]
def NONCE : List Int := [110, 111, 110, 99, 101]
def OPAQUE : List Int := [111, 112, 97, 113, 117, 101]
def STALE : List Int := [115, 116, 97, 108, 101]
def ALG : List Int := [97, 108, 103, 111, 114, 105, 116, 104, 109]
def QOP : List Int := [113, 111, 112]
def SHA : List Int := [115, 104, 97, 45, 50, 53, 54]
def TRUE : List Int := [116, 114, 117, 101]
def AUTH : List Int := [97, 117, 116, 104]
def AUTHI : List Int := [97, 117, 116, 104, 45, 105, 110, 116]
def parseCh (xs : List Int) : Except Int Ch := match fieldsL xs with
  | .error k => .error k
  | .ok l => if (getF l REALM).isSome = false ∨ (getF l NONCE).isSome = false then .error 8
    else if lowS (gotF l ALG) ≠ SHA ∨ (wordsL (gotF l QOP)).contains AUTH = false then .error 15
    else .ok ⟨gotF l REALM, gotF l NONCE, gotF l OPAQUE, (wordsL (gotF l QOP)).contains AUTHI, lowS (gotF l STALE) == TRUE⟩
def chV : Except Int Ch → Value
  | .error k => .tuple #[.agg #[.string ⟨#[]⟩, .string ⟨#[]⟩, .string ⟨#[]⟩, .bool false, .bool false], .int .u8 k]
  | .ok c => .tuple #[.agg (chC c).toArray, .int .u8 0]
theorem addAll_err : ∀ (ps : List (List Int)) (acc : List (List Int × List Int)) (k : Int), addAll acc ps = .error k → k ≠ 0
  | [], acc, k, h => by rw [addAll] at h; cases h
  | p :: ps, acc, k, h => by
    rw [addAll] at h
    cases hf : addF acc p with
    | error e =>
      rw [hf] at h
      cases h
      unfold addF at hf
      split at hf
      · cases hf; decide
      · split at hf
        · cases hf; decide
        · cases hf
    | ok a =>
      rw [hf] at h
      exact addAll_err ps a k h
theorem fieldsL_err {xs : List Int} {k : Int} (h : fieldsL xs = .error k) : k ≠ 0 := by
  unfold fieldsL at h
  split at h
  · cases h; decide
  · split at h
    · rename_i h2; cases h; exact h2
    · exact addAll_err _ _ _ h
theorem getF_ok {l : List (List Int × List Int)} {nm v : List Int} (hl : ∀ q ∈ l, fldOK 4000000 q) (h : getF l nm = some v) : By v ∧ v.length ≤ 4000000 := by
  unfold getF at h
  rw [Option.map_eq_some_iff] at h
  obtain ⟨q, hq, rfl⟩ := h
  obtain ⟨_, h2, _, h4, _⟩ := hl q (List.mem_of_find?_eq_some hq)
  exact ⟨h2, h4⟩
theorem gotF_ok {l : List (List Int × List Int)} (nm : List Int) (hl : ∀ q ∈ l, fldOK 4000000 q) : By (gotF l nm) ∧ (gotF l nm).length ≤ 4000000 := by
  unfold gotF
  cases h : getF l nm with
  | none => exact ⟨(fun x hx => by cases hx), Nat.zero_le _⟩
  | some v => exact getF_ok hl h
theorem cutL_sub (sep : Int) : ∀ xs : List Int, (∀ p ∈ cutL sep xs, p.Sublist xs) ∧ (cutL sep xs).length ≤ xs.length + 1
  | [] => ⟨fun p hp => by unfold cutL at hp; rw [List.mem_singleton] at hp; subst hp; exact List.Sublist.refl _, by unfold cutL; simp⟩
  | c :: r => by
    have ih := cutL_sub sep r
    by_cases h : c = sep
    · subst h
      rw [cutL_hit]
      refine ⟨fun p hp => ?_, by simp; exact ih.2⟩
      rcases List.mem_cons.1 hp with rfl | hp
      · exact List.nil_sublist _
      · exact (ih.1 p hp).cons _
    · rw [cutL_no _ _ _ h]
      cases hc : cutL sep r with
      | nil =>
        refine ⟨fun p hp => ?_, by simp [glue]⟩
        unfold glue at hp
        rw [List.mem_singleton] at hp
        subst hp
        exact (List.nil_sublist r).cons_cons c
      | cons q qs =>
        rw [hc] at ih
        refine ⟨fun p hp => ?_, by have := ih.2; simp [glue] at this ⊢; omega⟩
        unfold glue at hp
        rcases List.mem_cons.1 hp with rfl | hp
        · exact (ih.1 q (by simp)).cons_cons c
        · exact (ih.1 p (by simp [hp])).cons _
theorem wordsL_by {xs : List Int} (h : By xs) : ∀ p ∈ wordsL xs, By p := fun p hp => by
  unfold wordsL at hp
  obtain ⟨q, hq, rfl⟩ := List.mem_map.1 hp
  exact h.sub ((trimB_sub q).trans ((cutL_sub 44 xs).1 q hq))
end Go.Proofs.YtfhbpgickkibmaaGreatDoor
namespace Go.Proofs.YtfhbpgickkibmaaGreatDoor
open Go.RowKit

def nq (nm xs : List Int) : List Int := nm ++ [61] ++ quoteL xs
def DIG : List Int := [68, 105, 103, 101, 115, 116, 32]
def ALGP : List Int := [97, 108, 103, 111, 114, 105, 116, 104, 109, 61, 83, 72, 65, 45, 50, 53, 54]
def STALEP : List Int := [115, 116, 97, 108, 101, 61, 116, 114, 117, 101]
def BOTH : List Int := [97, 117, 116, 104, 44, 97, 117, 116, 104, 45, 105, 110, 116]
def prV : Option (List (List Int)) → Value
  | none => .tuple #[.string ⟨#[]⟩, .int .u8 2]
  | some l => .tuple #[.string (strOfNums (DIG ++ joinL [44, 32] l)), .int .u8 0]
def addT (L : Option (List (List Int))) (nm xs : List Int) : Option (List (List Int)) := if clean xs = true then L.map (· ++ [nq nm xs]) else none
def addP (L : Option (List (List Int))) (p : List Int) : Option (List (List Int)) := L.map (· ++ [p])
def partsCh (c : Ch) : List (List Int) := [nq REALM c.r, nq NONCE c.n] ++ (if c.o = [] then [] else [nq OPAQUE c.o]) ++ [ALGP] ++ [nq QOP (if c.i = true then BOTH else AUTH)] ++ (if c.s = true then [STALEP] else [])
def printCh (c : Ch) : Option (List (List Int)) := if clean c.r = true ∧ clean c.n = true ∧ clean c.o = true then some (partsCh c) else none
theorem addT_yes {l : List (List Int)} {nm xs : List Int} (h : clean xs = true) : addT (some l) nm xs = some (l ++ [nq nm xs]) := by unfold addT; rw [if_pos h]; rfl
theorem addT_no {L : Option (List (List Int))} {nm xs : List Int} (h : clean xs = false) : addT L nm xs = none := by unfold addT; rw [if_neg (by rw [h]; decide)]
theorem addT_none (nm xs : List Int) : addT none nm xs = none := by unfold addT; split <;> rfl
theorem addP_none (p : List Int) : addP none p = none := rfl
theorem clean_auth (b : Bool) : clean (if b = true then BOTH else AUTH) = true := by cases b <;> rfl
/-- The writer's way. -/
def writeCh (c : Ch) : Option (List (List Int)) :=
  let L1 := addT (addT (some []) REALM c.r) NONCE c.n
  let L2 := if c.o = [] then L1 else addT L1 OPAQUE c.o
  let L3 := addP L2 ALGP
  let L4 := addT L3 QOP (if c.i = true then BOTH else AUTH)
  if c.s = true then addP L4 STALEP else L4
theorem writeCh_eq (c : Ch) : writeCh c = printCh c := by
  unfold writeCh printCh partsCh
  cases hr : clean c.r with
  | false =>
    rw [addT_no hr, addT_none]
    simp only [addT_none, addP_none, ite_self, Bool.false_eq_true, false_and, if_false]
  | true =>
    rw [addT_yes hr]
    cases hn : clean c.n with
    | false =>
      rw [addT_no hn]
      simp only [addT_none, addP_none, ite_self, Bool.false_eq_true, false_and, and_false, if_false]
    | true =>
      rw [addT_yes hn]
      by_cases ho : c.o = []
      · have hc : clean c.o = true := by rw [ho]; rfl
        rw [hc]
        simp only [if_pos ho]
        unfold addP
        rw [Option.map_some, addT_yes (clean_auth c.i)]
        cases c.s <;> simp
      · cases hc : clean c.o with
        | false =>
          simp only [if_neg ho]
          rw [addT_no hc]
          simp only [addT_none, addP_none, ite_self, Bool.false_eq_true, and_false, if_false]
        | true =>
          simp only [if_neg ho]
          rw [addT_yes hc]
          unfold addP
          rw [Option.map_some, addT_yes (clean_auth c.i)]
          cases c.s <;> simp
theorem nq_len (nm xs : List Int) : (nq nm xs).length ≤ nm.length + 2 * xs.length + 3 := by
  unfold nq quoteL
  have := escL_len xs
  simp
  omega
theorem joinL_len (sep : List Int) (m : Nat) : ∀ l : List (List Int), (∀ p ∈ l, p.length ≤ m) → (joinL sep l).length ≤ l.length * (m + sep.length)
  | [], _ => by rw [joinL_nil]; simp
  | [x], h => by rw [joinL_one]; have := h x (by simp); simp; omega
  | x :: y :: r, h => by
    have ih := joinL_len sep m (y :: r) (fun p hp => h p (by simp [hp]))
    have := h x (by simp)
    rw [joinL_cons, List.length_append, List.length_append, List.length_cons, Nat.succ_mul]
    omega
end Go.Proofs.YtfhbpgickkibmaaGreatDoor
namespace Go.Proofs.YtfhbpgickkibmaaGreatDoor
open Go.RowKit

structure Cr where
  u : List Int
  r : List Int
  n : List Int
  i : List Int
  p : List Int
  c : List Int
  o : List Int
  k : Int
  g : Bool
def USER : List Int := [117, 115, 101, 114, 110, 97, 109, 101]
def URI : List Int := [117, 114, 105]
def RESP : List Int := [114, 101, 115, 112, 111, 110, 115, 101]
def CNONCE : List Int := [99, 110, 111, 110, 99, 101]
def NC : List Int := [110, 99]
def NMS : List (List Int) := [USER, REALM, NONCE, URI, RESP, CNONCE, NC]
def missing (l : List (List Int × List Int)) : Bool := NMS.any fun m => !(getF l m).isSome
def numL (bs : List Int) : Int := bs.foldl (fun a b => a * 256 + b) 0
def parseCr (xs : List Int) : Except Int Cr := match fieldsL xs with
  | .error k => .error k
  | .ok l => if missing l = true then .error 8
    else if lowS (gotF l ALG) ≠ SHA then .error 15
    else if gotF l QOP ≠ AUTHI ∧ gotF l QOP ≠ AUTH then .error 15
    else if goodU (gotF l NC) = false ∨ (gotF l NC).length / 2 ≠ 4 then .error 5
    else .ok ⟨gotF l USER, gotF l REALM, gotF l NONCE, gotF l URI, gotF l RESP, gotF l CNONCE, gotF l OPAQUE, numL (unL (gotF l NC) 4), gotF l QOP == AUTHI⟩
def crC (c : Cr) : List Value := [.string (strOfNums c.u), .string (strOfNums c.r), .string (strOfNums c.n), .string (strOfNums c.i), .string (strOfNums c.p), .string (strOfNums c.c), .string (strOfNums c.o), .int .i64 c.k, .bool c.g]
def crV : Except Int Cr → Value
  | .error k => .tuple #[.agg #[.string ⟨#[]⟩, .string ⟨#[]⟩, .string ⟨#[]⟩, .string ⟨#[]⟩, .string ⟨#[]⟩, .string ⟨#[]⟩, .string ⟨#[]⟩, .int .i64 0, .bool false], .int .u8 k]
  | .ok c => .tuple #[.agg (crC c).toArray, .int .u8 0]
theorem missing_at {l : List (List Int × List Int)} {i : Nat} (hi : i < 7) (h : (getF l (NMS.getD i [])).isSome = false) : missing l = true := by
  unfold missing
  rw [List.any_eq_true]
  refine ⟨NMS.getD i [], ?_, by rw [h]; rfl⟩
  rw [List.getD_eq_getElem?_getD, List.getElem?_eq_getElem (show i < NMS.length from hi)]
  exact List.getElem_mem _
theorem missing_no {l : List (List Int × List Int)} (h : ∀ j, j < 7 → (getF l (NMS.getD j [])).isSome = true) : missing l = false := by
  unfold missing
  rw [List.any_eq_false]
  intro m hm
  obtain ⟨j, hj, rfl⟩ := List.getElem_of_mem hm
  have h1 := h j hj
  rw [List.getD_eq_getElem?_getD, List.getElem?_eq_getElem hj] at h1
  rw [show (some NMS[j]).getD [] = NMS[j] from rfl] at h1
  rw [h1]
  decide
theorem numL_snoc (bs : List Int) (b : Int) : numL (bs ++ [b]) = numL bs * 256 + b := by unfold numL; rw [List.foldl_append]; rfl
theorem numL_take {bs : List Int} (h : By bs) : ∀ k : Nat, k ≤ bs.length → 0 ≤ numL (bs.take k) ∧ numL (bs.take k) < 256 ^ k
  | 0, _ => by rw [List.take_zero]; exact ⟨Int.le_refl 0, by decide⟩
  | k + 1, hk => by
    obtain ⟨h1, h2⟩ := numL_take h k (by omega)
    have h3 := h _ (getD_mem (l := bs) (i := k) (by omega))
    rw [take_snocI bs (by omega), numL_snoc, Int.pow_succ]
    omega
end Go.Proofs.YtfhbpgickkibmaaGreatDoor
namespace Go.Proofs.YtfhbpgickkibmaaGreatDoor
open Go.RowKit

def hex8 (k : Int) : List Int := [hexC (k / 268435456 % 16), hexC (k / 16777216 % 16), hexC (k / 1048576 % 16), hexC (k / 65536 % 16), hexC (k / 4096 % 16), hexC (k / 256 % 16), hexC (k / 16 % 16), hexC (k % 16)]
theorem hex8_eq (k : Int) (h0 : 0 ≤ k) (h1 : k ≤ 4294967295) : hexL [k / 16777216 % 256, k / 65536 % 256, k / 256 % 256, k % 256] = hex8 k := by
  unfold hex8 hexL
  simp only [List.flatMap_cons, List.flatMap_nil, hexP, List.append_nil, List.cons_append, List.nil_append]
  rw [show k / 16777216 % 256 / 16 = k / 268435456 % 16 by omega, show k / 16777216 % 256 % 16 = k / 16777216 % 16 by omega, show k / 65536 % 256 / 16 = k / 1048576 % 16 by omega, show k / 65536 % 256 % 16 = k / 65536 % 16 by omega,
    show k / 256 % 256 / 16 = k / 4096 % 16 by omega, show k / 256 % 256 % 16 = k / 256 % 16 by omega, show k % 256 / 16 = k / 16 % 16 by omega, show k % 256 % 16 = k % 16 by omega]
def QOPE : List Int := [113, 111, 112, 61]
def NCE : List Int := [110, 99, 61]
def partsCr (c : Cr) : List (List Int) := [nq USER c.u, nq REALM c.r, nq NONCE c.n, nq URI c.i, nq RESP c.p, ALGP, nq CNONCE c.c, QOPE ++ (if c.g = true then AUTHI else AUTH), NCE ++ hex8 c.k] ++ (if c.o = [] then [] else [nq OPAQUE c.o])
def cleanCr (c : Cr) : Bool := clean c.u && (clean c.r && (clean c.n && (clean c.i && (clean c.p && (clean c.c && clean c.o)))))
def printCr (c : Cr) : Option (List (List Int)) := if c.k < 0 ∨ 4294967295 < c.k then none else if cleanCr c = true then some (partsCr c) else none
/-- The writer's way. -/
def writeCr (c : Cr) : Option (List (List Int)) :=
  let L1 := addT (addT (addT (addT (addT (some []) USER c.u) REALM c.r) NONCE c.n) URI c.i) RESP c.p
  let L2 := addP (addP (addT (addP L1 ALGP) CNONCE c.c) (QOPE ++ (if c.g = true then AUTHI else AUTH))) (NCE ++ hex8 c.k)
  if c.o = [] then L2 else addT L2 OPAQUE c.o
theorem writeCr_eq (c : Cr) (h : ¬ (c.k < 0 ∨ 4294967295 < c.k)) : writeCr c = printCr c := by
  unfold printCr
  rw [if_neg h]
  unfold writeCr partsCr cleanCr
  dsimp only
  cases hu : clean c.u with
  | false => rw [addT_no hu]; simp only [addT_none, addP_none, ite_self, Bool.false_and, Bool.false_eq_true, if_false]
  | true =>
    rw [addT_yes hu]
    cases hr : clean c.r with
    | false => rw [addT_no hr]; simp only [addT_none, addP_none, ite_self, Bool.false_and, Bool.true_and, Bool.false_eq_true, if_false]
    | true =>
      rw [addT_yes hr]
      cases hn : clean c.n with
      | false => rw [addT_no hn]; simp only [addT_none, addP_none, ite_self, Bool.false_and, Bool.true_and, Bool.false_eq_true, if_false]
      | true =>
        rw [addT_yes hn]
        cases hi : clean c.i with
        | false => rw [addT_no hi]; simp only [addT_none, addP_none, ite_self, Bool.false_and, Bool.true_and, Bool.false_eq_true, if_false]
        | true =>
          rw [addT_yes hi]
          cases hp : clean c.p with
          | false => rw [addT_no hp]; simp only [addT_none, addP_none, ite_self, Bool.false_and, Bool.true_and, Bool.false_eq_true, if_false]
          | true =>
            rw [addT_yes hp]
            unfold addP
            rw [Option.map_some]
            cases hc : clean c.c with
            | false => rw [addT_no hc]; simp only [addT_none, Option.map_none, ite_self, Bool.false_and, Bool.true_and, Bool.false_eq_true, if_false]
            | true =>
              rw [addT_yes hc, Option.map_some, Option.map_some]
              by_cases ho : c.o = []
              · have hc0 : clean c.o = true := by rw [ho]; rfl
                rw [hc0, if_pos ho]
                simp [if_pos ho]
              · rw [if_neg ho]
                cases hc0 : clean c.o with
                | false => rw [addT_no hc0]; simp
                | true => rw [addT_yes hc0]; simp [if_neg ho]
def hexN (xs : List Int) : Int := xs.foldl (fun n c => 16 * n + digV c) 0
def countR (xs : List Int) : Int := if xs.length = 8 ∧ xs.all digOk = true then hexN xs else -1
/-- The eight digits, built from the last one. -/
def digB (k : Int) : Nat → List Int
  | 0 => []
  | n + 1 => hexC (k / 16 ^ n % 16) :: digB k n
theorem digB_8 (k : Int) : digB k 8 = hex8 k := by
  unfold hex8
  simp only [digB]
  rw [show (16 : Int) ^ 7 = 268435456 by decide, show (16 : Int) ^ 6 = 16777216 by decide, show (16 : Int) ^ 5 = 1048576 by decide, show (16 : Int) ^ 4 = 65536 by decide, show (16 : Int) ^ 3 = 4096 by decide, show (16 : Int) ^ 2 = 256 by decide, show (16 : Int) ^ 1 = 16 by decide, show (16 : Int) ^ 0 = 1 by decide, Int.ediv_one]
end Go.Proofs.YtfhbpgickkibmaaGreatDoor
