/- Contracts: address.Get; header's kindOf, many, Many. And what stands behind it. -/
import Derived.Test.YthfonniieaiocaaGreatDoorAl
import Derived.Test.YthfonniieaiocaaGreatDoorAe
import Derived.Lib.ItoaLen
import Derived.Test.YthfonniieaiocaaGreatDoorCc
set_option linter.unusedVariables false
set_option linter.unusedSimpArgs false
namespace Go.Proofs.YthfonniieaiocaaGreatDoor
open Go.RowKit

theorem lit_beq {c : List Int} (hc : By c) (u : List UInt8) : ((strOfNums c).toList == u) = (bl u == c) := by
  rw [Bool.eq_iff_iff, beq_iff_eq, beq_iff_eq, ByteArray.toList_eq]
  constructor
  · intro h
    rw [← byteL_str hc, byteL_bl, h]
  · rintro rfl
    apply bl_inj
    rw [bl_strOfNums (bl_by u)]

def strs (l : List (List Int)) : List Value := l.map fun t => .string (strOfNums t)
theorem strs_len (l : List (List Int)) : (strs l).length = l.length := by simp [strs]
theorem strs_snoc (l : List (List Int)) (t : List Int) : strs (l ++ [t]) = strs l ++ [.string (strOfNums t)] := by simp [strs]
theorem VX.base {T : TypeId} {sz : Nat} {w W wr : World} {v : Value} {n : Nat} {cs : List Value} (H : VX T sz W v n cs wr) (hb : Below w.heap.size w W) : VX T sz w v n cs wr := by
  refine ⟨⟨H.o.1, ?_⟩, bthen hb H.bw⟩
  rcases H.o.2 with h0 | ⟨g, cap, cur, h1, h2, h3⟩
  · exact .inl h0
  · exact .inr ⟨g, cap, cur, h1, Nat.le_trans hb.size h2, h3⟩
abbrev SXL (w : World) (v : Value) (l : List (List Int)) (wr : World) : Prop := VX 9 1 w v l.length (strs l) wr
def ListR (w : World) (R : Except Int (List (List Int))) (e : Ending) (w' : World) : Prop := match R with
  | .error k => e = .returned (.tuple #[.slice none 0 0, .int .u8 k]) ∧ Below w.heap.size w w' ∧ k ≠ 0
  | .ok l => ∃ v, e = .returned (.tuple #[v, .int .u8 0]) ∧ SXL w v l w'
theorem ListR.bad {w w' : World} {R : Except Int (List (List Int))} {k : Int} (h : R = .error k) (hk : k ≠ 0) (hb : Below w.heap.size w w') : ListR w R (.returned (.tuple #[.slice none 0 0, .int .u8 k])) w' := by
  subst h; exact ⟨rfl, hb, hk⟩
theorem ListR.good {w w' : World} {R : Except Int (List (List Int))} {l : List (List Int)} {v : Value} (h : R = .ok l) (hb : SXL w v l w') : ListR w R (.returned (.tuple #[v, .int .u8 0])) w' := by
  subst h; exact ⟨v, rfl, hb⟩
theorem take_succ_at {α : Type} {l : List α} {k : Nat} {p : α} (h : l[k]? = some p) : l.take (k + 1) = l.take k ++ [p] := by
  obtain ⟨h1, h2⟩ := List.getElem?_eq_some_iff.1 h
  rw [List.take_add_one, h]
  rfl

def one1 (nm : List Int) (h : ByteArray × ByteArray) : List (List Int) := if manyN nm = true then elemsL (byteL h.2) else [byteL h.2]
theorem allH_eq (l : List (ByteArray × ByteArray)) (nm : List Int) : allH l nm = (l.filter (hitN (canonL nm))).flatMap (one1 nm) := rfl

structure HdOK (l : List (ByteArray × ByteArray)) (n : Nat) : Prop where
  len : l.length = n
  max : n ≤ 16000000
  hs : ∀ h ∈ l, h.1.size ≤ 4000000 ∧ h.2.size ≤ 4000000 ∧ elemsL (byteL h.2) ≠ [] ∧ ¬ (91 : Int) ∈ byteL h.2
  tot : ∀ nm, (allH l nm).length ≤ 1000000
structure Fnd where
  has : Bool
  n : Int
  ps : List Pm
  e : Int
def FoundP (w : World) (F : Fnd) (e : Ending) (w' : World) : Prop := ∃ A c, e = .returned (.agg #[.bool F.has, .int .i64 F.n, .slice A F.ps.length c, .int .u8 F.e]) ∧ Below w.heap.size w w' ∧ Rds w' w'.heap.size A (pms F.ps) ∧ F.ps.length ≤ 16 ∧ ∀ b o s, A = some ⟨b, o, s⟩ → w.heap.size ≤ b
theorem FoundP.mk {w w' : World} {F : Fnd} {h : Bool} {n k : Int} {l : List Pm} {A : Option Addr} {c : Nat} (hF : F = ⟨h, n, l, k⟩) (hb : Below w.heap.size w w') (hr : Rds w' w'.heap.size A (pms l)) (hl : l.length ≤ 16) (hf : ∀ b o s, A = some ⟨b, o, s⟩ → w.heap.size ≤ b) : FoundP w F (.returned (.agg #[.bool h, .int .i64 n, .slice A l.length c, .int .u8 k])) w' := by
  subst hF; exact ⟨A, c, rfl, hb, hr, hl, hf⟩

def decL (n : Int) : List Int := bl (Lib.itoa n)
theorem decL_by (n : Int) : By (decL n) := bl_by _
theorem dd_small {n : Nat} (h : n < 10) : decL (n : Int) = [48 + (n : Int)] := by
  unfold decL
  rw [Lib.itoa_nonneg, Lib.decDigits, dif_pos h]
  unfold bl
  simp
  omega
theorem dd_big {n : Nat} (h : ¬ n < 10) : decL (n : Int) = decL ((n / 10 : Nat) : Int) ++ [48 + ((n % 10 : Nat) : Int)] := by
  unfold decL
  rw [Lib.itoa_nonneg, Lib.itoa_nonneg, Lib.decDigits, dif_neg h]
  unfold bl
  rw [List.map_append]
  simp
  omega
theorem dec_len (n : Nat) : ∀ k : Nat, n < 10 ^ (k + 1) → (decL n).length ≤ k + 1 := by
  intro k
  induction k generalizing n with
  | zero => intro h; rw [dd_small (by simpa using h)]; simp
  | succ k ih =>
    intro h
    by_cases h2 : n < 10
    · rw [dd_small h2]; simp
    · rw [dd_big h2, List.length_append]
      have := ih (n / 10) ((Nat.div_lt_iff_lt_mul (by decide)).2 (by rwa [Nat.pow_succ] at h))
      rw [List.length_singleton]
      omega

def grpOK (g : List Int) : Bool := (decide (1 ≤ g.length) && decide (g.length ≤ 4)) && g.all fun c => decide (0 ≤ hexV c)
def grpN (g : List Int) : List Int := let t := (lowS g).dropWhile (· == 48); if t = [] then [48] else t
def grpL (s : List Int) : Option (List (List Int)) := if (cutL 58 s).all grpOK = true then some ((cutL 58 s).map grpN) else none
def dblL : List Int → Option (List Int × List Int)
  | [] => none
  | [_] => none
  | c :: d :: r => if c = 58 ∧ d = 58 then some ([], r) else (dblL (d :: r)).map fun p => (c :: p.1, p.2)
def sideL (s : List Int) : Option (List (List Int)) := if s = [] then some [] else grpL s
def groupsL (s : List Int) : Option (List Int) :=
  if 39 < s.length then none else
  match dblL s with
  | none => match grpL s with
    | some l => if l.length = 8 then some (joinL [58] l) else none
    | none => none
  | some p => match sideL p.1, sideL p.2 with
    | some x, some y => if 7 < x.length + y.length then none else some (joinL [58] x ++ [58, 58] ++ joinL [58] y)
    | _, _ => none
def numOK (n : List Int) : Bool := (n.all isDig && !n.isEmpty) && (decide (valL n ≤ 255) && n == decL (valL n))
def numbersL (s : List Int) : Bool := decide (s.length ≤ 15) && ((cutL 46 s).all numOK && decide ((cutL 46 s).length = 4))
def labC (c : Int) : Bool := isLet c || (isDig c || c == 45)
def labOK (p : List Int) : Bool := (decide (1 ≤ p.length) && decide (p.length ≤ 63)) && ((p.getD 0 0 != 45 && p.getD (p.length - 1) 0 != 45) && p.all labC)
def wordL (p : List Int) : Bool := p.any fun c => !isDig c
def namedL (s : List Int) : Bool := (decide (1 ≤ s.length) && decide (s.length ≤ 255)) && ((cutL 46 s).all labOK && (cutL 46 s).any wordL)
def hostL (s : List Int) : Option (List Int) :=
  if 2 ≤ s.length ∧ s.getD 0 0 = 91 ∧ s.getD (s.length - 1) 0 = 93 then (groupsL (subL s 1 (s.length - 1))).map fun g => [91] ++ g ++ [93]
  else if numbersL s = true then some s
  else if namedL s = true then some (lowS s)
  else none
theorem grpN_by {g : List Int} (h : By g) : By (grpN g) := by
  unfold grpN
  dsimp only
  split
  · unfold By; decide
  · exact (lowS_by h).sub (List.dropWhile_sublist _)
theorem cutL_by {sep : Int} {s : List Int} (h : By s) : ∀ p ∈ cutL sep s, By p := by
  induction s with
  | nil => intro p hp; rw [show cutL sep [] = [[]] from rfl, List.mem_singleton] at hp; subst hp; exact fun x hx => by cases hx
  | cons c r ih =>
    have hr : By r := fun x hx => h x (List.mem_cons_of_mem _ hx)
    have hc : 0 ≤ c ∧ c < 256 := h c (by simp)
    intro p hp
    by_cases he : c = sep
    · subst he
      rw [cutL_hit] at hp
      rcases List.mem_cons.1 hp with rfl | hp
      · exact fun x hx => by cases hx
      · exact ih hr p hp
    · rw [cutL_no sep c r he] at hp
      cases hq : cutL sep r with
      | nil => rw [hq] at hp; simp [glue] at hp; subst hp; intro x hx; rw [List.mem_singleton] at hx; subst hx; exact hc
      | cons q qs =>
        rw [hq] at hp
        simp only [glue] at hp
        rcases List.mem_cons.1 hp with rfl | hp
        · intro x hx
          rcases List.mem_append.1 hx with hx | hx
          · rw [List.mem_singleton] at hx; subst hx; exact hc
          · exact ih hr q (by rw [hq]; simp) x hx
        · exact ih hr p (by rw [hq]; exact List.mem_cons_of_mem _ hp)
theorem joinL_by2 {sep : List Int} (hs : By sep) : ∀ {l : List (List Int)}, (∀ p ∈ l, By p) → By (joinL sep l)
  | [], _ => fun x hx => by rw [joinL_nil] at hx; cases hx
  | [p], h => by rw [joinL_one]; exact h p (by simp)
  | p :: q :: r, h => fun x hx => by
    rw [joinL_cons] at hx
    rcases List.mem_append.1 hx with h1 | h1
    · exact h p (by simp) x h1
    · rcases List.mem_append.1 h1 with h2 | h2
      · exact hs x h2
      · exact joinL_by2 hs (fun t ht => h t (by simp [List.mem_cons.1 ht])) x h2
theorem dblL_by : ∀ {s : List Int} {p : List Int × List Int}, By s → dblL s = some p → By p.1 ∧ By p.2
  | [], _, _, h => by cases h
  | [_], _, _, h => by cases h
  | c :: d :: r, p, hs, h => by
    unfold dblL at h
    split at h
    · injection h with h
      subst h
      exact ⟨(fun x hx => absurd hx (by simp)), (fun x hx => hs x (by simp [show x ∈ r from hx]))⟩
    · cases hq : dblL (d :: r) with
      | none => rw [hq] at h; cases h
      | some q =>
        rw [hq] at h
        injection h with h
        subst h
        obtain ⟨h1, h2⟩ := dblL_by (fun x hx => hs x (List.mem_cons_of_mem _ hx)) hq
        refine ⟨fun x hx => ?_, h2⟩
        rcases List.mem_cons.1 hx with rfl | hx
        · exact hs _ (by simp)
        · exact h1 x hx
theorem grpL_by {s : List Int} {l : List (List Int)} (hs : By s) (h : grpL s = some l) : ∀ p ∈ l, By p := by
  unfold grpL at h
  split at h
  · injection h with h
    subst h
    intro p hp
    obtain ⟨q, hq, rfl⟩ := List.mem_map.1 hp
    exact grpN_by (cutL_by hs q hq)
  · cases h

def untilL (xs : List Int) (a : Nat) (stops : List Int) : Nat := skipTo (fun c => !stops.contains c) xs a
structure Uri where
  sc : List Int
  us : List Int
  ho : List Int
  po : Int
  ps : List Pm
  hs : List Pm
def atL (xs : List Int) (a : Nat) (c : Int) : Bool := decide (a < xs.length) && xs.getD a 0 == c
def userL (xs : List Int) (a : Nat) : Except (Nat × Int) (List Int × Nat) :=
  let k := untilL xs a [64]
  if xs.length ≤ k then .ok ([], a) else
  match wrongL (xs.take k) 0 a with
  | some i => .error (i, if xs.getD i 0 = 58 then 15 else 5)
  | none => if k = a then .error (k, 5) else .ok (contL (subL xs a k), k + 1)
def hostEnd (xs : List Int) (a : Nat) : Nat := if atL xs a 91 = true then min (untilL xs a [93] + 1) xs.length else untilL xs a [58, 59, 63]
def portL (xs : List Int) (a : Nat) : Except (Nat × Int) (Int × Nat) :=
  if atL xs a 58 = true then
    let k := untilL xs (a + 1) [59, 63]
    let p := decnL (subL xs (a + 1) k)
    if p.2 ≠ 0 then .error (a + 1, p.2) else if p.1 < 1 ∨ 65535 < p.1 then .error (a + 1, 3) else .ok (p.1, k)
  else if a < xs.length ∧ atL xs a 59 = false ∧ atL xs a 63 = false then .error (a, 5)
  else .ok (0, a)
def placeL (xs : List Int) (a : Nat) : Except (Nat × Int) (List Int × List Int × Int × Nat) :=
  match userL xs a with
  | .error e => .error e
  | .ok (u, b) =>
    match hostL (subL xs b (hostEnd xs b)) with
    | none => .error (b, 5)
    | some h =>
      match portL xs (hostEnd xs b) with
      | .error e => .error e
      | .ok (p, c) => .ok (u, h, p, c)
def telC (sg : Bool) (c : Int) : Bool := isDig c || (!sg && (c == 42 || c == 35))
def telS (c : Int) : Bool := c == 45 || (c == 46 || (c == 40 || c == 41))
def telN (xs : List Int) (sg : Bool) : Nat → Nat → List Int → Except Nat (List Int)
  | 0, _, acc => .ok acc
  | f + 1, i, acc =>
    if xs.length ≤ i then .ok acc
    else if telC sg (xs.getD i 0) = true then telN xs sg f (i + 1) (acc ++ [xs.getD i 0])
    else if telS (xs.getD i 0) = true then telN xs sg f (i + 1) acc
    else .error i
def phoneL (xs : List Int) (a : Nat) : Except (Nat × Int) (List Int × Nat) :=
  let k := untilL xs a [59]
  let sg := atL xs a 43
  let b := if sg = true then a + 1 else a
  match telN (xs.take k) sg (xs.length + 1) b [] with
  | .error i => .error (i, 5)
  | .ok d => if d = [] then .error (a, 5) else if 30 < d.length then .error (a, 4) else .ok ((if sg = true then [43] else []) ++ d, k)
def eqAt (xs : List Int) (a e : Nat) : Nat := a + ((subL xs a e).takeWhile (· != 61)).length
def fieldL (xs : List Int) (l : List Pm) (a e : Nat) (k : Int) : Except (Nat × Int) (List Pm) :=
  let b := eqAt xs a e
  match wrongL (xs.take b) k a with
  | some i => .error (i, 5)
  | none =>
    if b = a then .error (a, 5) else
    let nm := lowS (contL (subL xs a b))
    if b < e then
      match wrongL (xs.take e) k (b + 1) with
      | some i => .error (i, 5)
      | none =>
        if b + 1 = e ∧ k = 1 then .error (e, 5)
        else if roomL l nm ≠ 0 then .error (a, roomL l nm)
        else .ok (l ++ [⟨nm, contL (subL xs (b + 1) e), true⟩])
    else if k = 2 then .error (e, 5)
    else if roomL l nm ≠ 0 then .error (a, roomL l nm)
    else .ok (l ++ [⟨nm, [], false⟩])
def psN (xs : List Int) (stops : List Int) : Nat → Nat → List Pm → Except (Nat × Int) (List Pm × Nat)
  | 0, a, l => .ok (l, a)
  | f + 1, a, l =>
    if atL xs a 59 = false then .ok (l, a)
    else match fieldL xs l (a + 1) (untilL xs (a + 1) stops) 1 with
      | .error e => .error e
      | .ok m => psN xs stops f (untilL xs (a + 1) stops) m
def hsN (xs : List Int) : Nat → Nat → List Pm → Except (Nat × Int) (List Pm)
  | 0, _, l => .ok l
  | f + 1, a, l =>
    if xs.length ≤ a then .ok l
    else match fieldL xs l (a + 1) (untilL xs (a + 1) [38]) 2 with
      | .error e => .error e
      | .ok m => hsN xs f (untilL xs (a + 1) [38]) m
def ltL : List Int → List Int → Bool
  | [], [] => false
  | [], _ :: _ => true
  | _ :: _, [] => false
  | a :: x, b :: y => if a < b then true else if b < a then false else ltL x y
def insPm (p : Pm) : List Pm → List Pm
  | [] => [p]
  | q :: r => if ltL p.n q.n = true then p :: q :: r else q :: insPm p r
def sortPm (l : List Pm) : List Pm := l.foldl (fun acc p => insPm p acc) []
def SIPT : List Int := [115, 105, 112]
def SIPST : List Int := [115, 105, 112, 115]
def TELT : List Int := [116, 101, 108]
def tailL (xs : List Int) (stops : List Int) (sc us ho : List Int) (po : Int) (a : Nat) : Except (Nat × Int) Uri :=
  match psN xs stops (xs.length + 1) a [] with
  | .error e => .error e
  | .ok (ps, b) =>
    match hsN xs (xs.length + 1) b [] with
    | .error e => .error e
    | .ok hs => .ok ⟨sc, us, ho, po, sortPm ps, sortPm hs⟩
def uriL (xs : List Int) : Except (Nat × Int) Uri :=
  if 1024 < xs.length then .error (1024, 4) else
  let k := untilL xs 0 [58]
  if xs.length ≤ k then .error (xs.length, 5) else
  let sc := lowS (xs.take k)
  if sc = SIPT ∨ sc = SIPST then
    match placeL xs (k + 1) with
    | .error e => .error e
    | .ok (u, h, p, a) => tailL xs [59, 63] sc u h p a
  else if sc = TELT then
    match phoneL xs (k + 1) with
    | .error e => .error e
    | .ok (u, a) => tailL xs [59] sc u [] 0 a
  else .error (0, 15)

def fldsN (k : Int) : List Pm → List Pm → Option (List Pm)
  | [], n => some n
  | p :: r, n =>
    if lowS p.n = [] ∨ clean (lowS p.n) = false ∨ clean p.v = false ∨ holdsL n (lowS p.n) = true then none
    else if (k = 2 ∧ p.h = false) ∨ (k = 1 ∧ p.h ≠ !p.v.isEmpty) then none
    else fldsN k r (n ++ [⟨lowS p.n, p.v, p.h⟩])
def fldsL (l : List Pm) (k : Int) : Option (List Pm) := if 16 < l.length then none else (fldsN k l []).map sortPm
def dialedL (s : List Int) : Bool :=
  let sg := decide (s.head? = some 43)
  let d := if sg = true then s.drop 1 else s
  (decide (d ≠ []) && decide (d.length ≤ 30)) && d.all (telC sg)
def normL (u : Uri) : Option Uri :=
  let sc := lowS u.sc
  match fldsL u.ps 1, fldsL u.hs 2 with
  | some ps, some hs =>
    if sc = SIPT ∨ sc = SIPST then
      match hostL u.ho with
      | some h => if 0 ≤ u.po ∧ u.po ≤ 65535 ∧ clean u.us = true then some ⟨sc, u.us, h, u.po, ps, hs⟩ else none
      | none => none
    else if sc = TELT then (if u.ho = [] ∧ u.po = 0 ∧ u.hs = [] ∧ dialedL u.us = true then some ⟨sc, u.us, [], 0, ps, hs⟩ else none)
    else none
  | _, _ => none
def pmT (p : Pm) : List Int := [59] ++ escT 1 p.n ++ (if p.h = true then [61] ++ escT 1 p.v else [])
def hdT (p : Pm) : List Int := escT 2 p.n ++ [61] ++ escT 2 p.v
def hdsT : List Pm → Bool → List Int
  | [], _ => []
  | p :: r, first => (if first = true then [63] else [38]) ++ hdT p ++ hdsT r false
def printN (u : Uri) : List Int :=
  u.sc ++ [58] ++ (if u.sc = TELT then u.us else if u.us = [] then [] else escT 0 u.us ++ [64]) ++ u.ho ++ (if u.po = 0 then [] else [58] ++ decL u.po) ++ u.ps.flatMap pmT ++ hdsT u.hs true
def printU (u : Uri) : Option (List Int) := (normL u).map printN
def listedH (xs : List Int) (a : Nat) : Except (Nat × Int) (Pm × Nat) :=
  let e1 := skipTo isTok xs a
  if e1 = a then .error (e1, 5) else
  let nm := lowS (subL xs a e1)
  let a1 := skipTo isBlank xs e1
  if atL xs a1 61 = false then .ok (⟨nm, [], false⟩, a1) else
  let a2 := skipTo isBlank xs (a1 + 1)
  if atL xs a2 34 = true then (if (unq xs (a2 : Nat)).2.2 ≠ 0 then .error ((unq xs (a2 : Nat)).2.1, (unq xs (a2 : Nat)).2.2) else .ok (⟨nm, (unq xs (a2 : Nat)).1, true⟩, (unq xs (a2 : Nat)).2.1))
  else if atL xs a2 91 = true then
    match hostL (subL xs a2 (min (untilL xs a2 [93] + 1) xs.length)) with
    | none => .error (a2, 5)
    | some h => .ok (⟨nm, h, true⟩, untilL xs a2 [93] + 1)
  else
    let e3 := skipTo isTok xs a2
    if e3 = a2 then .error (a2, 5) else .ok (⟨nm, subL xs a2 e3, true⟩, e3)
def parsN (xs : List Int) : Nat → Nat → List Pm → Except (Nat × Int) (List Pm)
  | 0, _, l => .ok l
  | f + 1, a, l =>
    let a0 := skipTo isBlank xs a
    if xs.length ≤ a0 then .ok l else
    if xs.getD a0 0 ≠ 59 then .error (a0, 5) else
    let a1 := skipTo isBlank xs (a0 + 1)
    match listedH xs a1 with
    | .error e => .error e
    | .ok (p, a2) => if roomL l p.n ≠ 0 then .error (a1, roomL l p.n) else parsN xs f a2 (l ++ [p])
def parsL (xs : List Int) : Except (Nat × Int) (List Pm) := parsN xs (xs.length + 1) 0 []
structure Adr where
  ds : List Int
  u : Uri
  ps : List Pm
def wordsN (xs : List Int) : Nat → Nat → List (List Int) → Except Nat (List (List Int) × Nat)
  | 0, a, l => .ok (l, a)
  | f + 1, a, l =>
    if atL xs a 60 = true then .ok (l, a)
    else
      let e := skipTo isTok xs a
      if e = a then .error a else wordsN xs f (skipTo isBlank xs e) (l ++ [subL xs a e])
def nameL (xs : List Int) : Except (Nat × Int) (List Int × Nat) :=
  let a := skipTo isBlank xs 0
  if atL xs a 34 = true then
    (if (unq xs (a : Nat)).2.2 ≠ 0 then .error ((unq xs (a : Nat)).2.1, (unq xs (a : Nat)).2.2)
     else let b := skipTo isBlank xs (unq xs (a : Nat)).2.1
       if atL xs b 60 = false then .error (b, 5) else .ok ((unq xs (a : Nat)).1, b))
  else if xs.contains 60 = true then
    match wordsN xs (xs.length + 1) a [] with
    | .error e => .error (e, 5)
    | .ok (l, b) => .ok (joinL [32] l, b)
  else .ok ([], a)
def aimL (xs : List Int) (a : Nat) : Except (Nat × Int) (Uri × Nat) :=
  if atL xs a 60 = true then
    let e := untilL xs (a + 1) [62]
    if e = xs.length then .error (e, 5) else
    match uriL (subL xs (a + 1) e) with
    | .error (i, k) => .error (a + 1 + i, k)
    | .ok u => .ok (u, e + 1)
  else
    let e := untilL xs a [59, 32, 9]
    let q := untilL xs a [63, 44]
    if q < e then .error (q, 5) else
    match uriL (subL xs a e) with
    | .error (i, k) => .error (a + i, k)
    | .ok u => .ok (u, e)
def adrL (xs : List Int) : Except (Nat × Int) Adr :=
  if 1024 < xs.length then .error (1024, 4) else
  match nameL xs with
  | .error e => .error e
  | .ok (d, a) =>
    match aimL xs a with
    | .error e => .error e
    | .ok (u, b) =>
      match parsL (xs.drop b) with
      | .error (i, k) => .error (b + i, k)
      | .ok l => .ok ⟨d, u, l⟩
end Go.Proofs.YthfonniieaiocaaGreatDoor
