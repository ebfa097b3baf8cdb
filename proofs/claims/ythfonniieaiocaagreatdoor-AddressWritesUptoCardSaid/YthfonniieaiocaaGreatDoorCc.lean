/- Structs that lie in a block of their own: loaded, stored, handed back. And what stands behind it. -/
import Derived.Test.YthfonniieaiocaaGreatDoorPh
import Derived.Test.YthfonniieaiocaaGreatDoorCa
set_option linter.unusedVariables false
set_option linter.unusedSimpArgs false
namespace Go.Proofs.YthfonniieaiocaaGreatDoor
open Go.RowKit

theorem bthen {a b c : World} (h : Below a.heap.size a b) (h2 : Below b.heap.size b c) : Below a.heap.size a c := h.trans (h2.mono h.size)
theorem heap_setCells {b : Nat} : ∀ (us : List Value) (o : Nat) (w : World) (b' : Nat), b' ≠ b → (w.setCells b o us).heap[b']? = w.heap[b']?
  | [], _, _, _, _ => rfl
  | u :: us, o, w, b', h => (heap_setCells us (o + 1) _ b' h).trans (Below.heap_setCell w ⟨b, o, none⟩ u b' h)
theorem wpList_loadR {P : Program} {ops : Array Oper} {rest : List Oper} {op : Oper} {a : Act} {w : World} {Q : Exit → Act → World → Prop} (hgd : op.guard = none) (ty : TypeId) (x : Operand) (ho : op.op = .load ty x) {b : Nat} {T : TypeId} {cs : List Value} (hr : Row w b T cs)
    (hx : a.eval x = .pointer (some ⟨b, 0, none⟩)) {d : TypeDesc} (hu : P.underlying ty = some d) (hd : d.isRow = true) (hi : (P.info? ty).map (·.size) = some cs.length)
    (h : wpList P ops Q rest (a.put op.dst (.agg cs.toArray)) w) : wpList P ops Q (op :: rest) a w :=
  wpList_load_mid hgd ty x ho b 0 hx cs d hr.range hu hd hi h
theorem wpList_storeR {P : Program} {ops : Array Oper} {rest : List Oper} {op : Oper} {a : Act} {W0 w : World} {Q : Exit → Act → World → Prop} (hgd : op.guard = none) (ty : TypeId) (x y : Operand) (ho : op.op = .store ty x y) {b : Nat} {T : TypeId} {vs : List Value} (hr : Row w b T vs) (us : List Value)
    (hx : a.eval x = .pointer (some ⟨b, 0, none⟩)) (hy : a.eval y = .agg us.toArray) (hl : vs.length = us.length) (hi : (P.info? ty).map (·.size) = some us.length) (h1 : ∀ u ∈ us, u.oneCell' = true) (hbw : Below W0.heap.size W0 w) (hb : W0.heap.size ≤ b)
    (h : ∀ w', Hid (Row w' b T us) → Hid (Below W0.heap.size W0 w') → Hid (w'.heap.size = w.heap.size ∧ ∀ b', b' ≠ b → w'.heap[b']? = w.heap[b']?) → wpList P ops Q rest (a.put op.dst undef) w') : wpList P ops Q (op :: rest) a w := by
  have hz : us.toArray.size = us.length := by simp
  refine wpList_store_mid hgd ty x y ho b 0 us.toArray hx hy (by rw [hz, ← hl]; exact hr.there) (by rw [hz]; exact hi) (all_oneCell_toArray h1) ?_
  refine h _ (kd (hr.setAll us hl)) (kd (below_setCells hb us 0 _ hbw)) (kd ⟨?_, fun b' hb' => heap_setCells us 0 w b' hb'⟩)
  have hsz : ∀ (us : List Value) (o : Nat) (w : World), (w.setCells b o us).heap.size = w.heap.size := by
    intro us
    induction us with
    | nil => intro o w; rfl
    | cons u us ih => intro o w; exact (ih (o + 1) _).trans (by simp [World.setCell])
  exact hsz us 0 w
theorem results_ct {fn : Func} {t u : Tmp} {ty : TypeId} (h : fn.results = #[.cell t ty, .tmp u]) (tmps : Array Value) (P : Program) (w : World) (b : Nat) (cs : List Value) (d : TypeDesc)
    (ht : tmps.getD t undef = .pointer (some ⟨b, 0, none⟩)) (hc : w.rangeAt b 0 cs) (hu : P.underlying ty = some d) (hd : d.isRow = true) (hi : (P.info? ty).map (·.size) = some cs.length) :
    (results fn tmps).run P w = .ok (.tuple #[.agg cs.toArray, tmps.getD u undef]) w := by
  have hl := run_loadVar_mid (P := P) w b 0 ty cs d hc hu hd hi
  simp only [results, h]
  simp [-Array.getD_eq_getD_getElem?, ht, asAddr, hl]
theorem Row.heap {w w' : World} {b : Nat} {T : TypeId} {vs : List Value} (h : Row w b T vs) (he : w'.heap[b]? = w.heap[b]?) : Row w' b T vs := he.trans h
theorem VX.other {T : TypeId} {sz : Nat} {w wr w' : World} {v : Value} {n : Nat} {cs : List Value} (H : VX T sz w v n cs wr) (hb : Below w.heap.size w w') (hk : ∀ g, v.ownBlock = some g → w'.heap[g]? = wr.heap[g]?) : VX T sz w v n cs w' := by
  refine ⟨⟨H.o.1, ?_⟩, hb⟩
  rcases H.o.2 with h0 | ⟨g, cap, cur, h1, h2, h3, h4⟩
  · exact .inl h0
  · exact .inr ⟨g, cap, cur, h1, h2, (hk g (by rw [h1]; rfl)).trans h3, h4⟩

def hexC (n : Int) : Int := if n < 10 then 48 + n else 87 + n
def hexP (b : Int) : List Int := [hexC (b / 16), hexC (b % 16)]
def hexL (bs : List Int) : List Int := bs.flatMap hexP
theorem hexL_len : ∀ bs : List Int, (hexL bs).length = 2 * bs.length
  | [] => rfl
  | b :: bs => by
    have h := hexL_len bs
    rw [show hexL (b :: bs) = hexP b ++ hexL bs from rfl, List.length_append, h, List.length_cons]
    simp [hexP]; omega
theorem hexL_snoc (bs : List Int) (b : Int) : hexL (bs ++ [b]) = hexL bs ++ [hexC (b / 16), hexC (b % 16)] := by simp [hexL, hexP]
def digOk (c : Int) : Bool := decide (48 ≤ c ∧ c ≤ 57) || (decide (97 ≤ c ∧ c ≤ 102) || decide (65 ≤ c ∧ c ≤ 70))
def digV (c : Int) : Int := if 48 ≤ c ∧ c ≤ 57 then c - 48 else if 97 ≤ c ∧ c ≤ 102 then c - 87 else if 65 ≤ c ∧ c ≤ 70 then c - 55 else 0
structure HX (w : World) (bs : List Int) (m k : Nat) (wr : World) : Prop where
  r : Row wr w.heap.size 5 (U8 (hexL (bs.take k) ++ List.replicate (2 * (m - k)) 0))
  bw : Below w.heap.size w wr
theorem i5 : ∃ i, Tryz.prog.info? 5 = some i ∧ i.size = 1 := by
  obtain ⟨i, h1, _, h2, _⟩ := i5all
  exact ⟨i, h1, h2⟩
theorem and15 (c : Int) (h0 : 0 ≤ c) (h1 : c < 256) : bits .and .u8 c 15 = c % 16 := by
  obtain ⟨k, rfl⟩ := Int.eq_ofNat_of_zero_le h0
  have h : ∀ k : Fin 256, bits .and .u8 (k.val : Int) 15 = (k.val : Int) % 16 := by decide +kernel
  exact h ⟨k, by omega⟩
theorem HX.step {w W : World} {bs : List Int} {m k : Nat} {x : Int} (hk : k < m) (hl : bs.length = m) (e : bs.take (k + 1) = bs.take k ++ [x]) (r : Row W w.heap.size 5 (U8 (hexL (bs.take k) ++ List.replicate (2 * (m - k)) 0))) (bw : Below w.heap.size w W) :
    HX w bs m (k + 1) (W.setCells w.heap.size (2 * k) [.int .u8 (hexC (x / 16)), .int .u8 (hexC (x % 16))]) := by
  refine ⟨?_, below_setCells (Nat.le_refl _) _ _ _ bw⟩
  rw [e, hexL_snoc]
  have e2 : List.replicate (2 * (m - k)) (0 : Int) = [0, 0] ++ List.replicate (2 * (m - (k + 1))) 0 := by
    rw [show 2 * (m - k) = 2 * (m - (k + 1)) + 1 + 1 by omega, List.replicate_succ, List.replicate_succ]; rfl
  have hl2 : (U8 (hexL (bs.take k))).length = 2 * k := by simp [U8, hexL_len]; omega
  rw [← hl2]
  have h1 : Row W w.heap.size 5 (U8 (hexL (bs.take k)) ++ [Value.int .u8 0, .int .u8 0] ++ U8 (List.replicate (2 * (m - (k + 1))) 0)) := by
    rw [e2] at r
    simpa [U8] using r
  have h2 := Row.setCells [Value.int .u8 (hexC (x / 16)), .int .u8 (hexC (x % 16))] _ _ _ W h1 rfl
  simpa [U8] using h2
theorem HX.len {w wr : World} {bs : List Int} {m k : Nat} (_H : HX w bs m k wr) (hk : k < m) (hl : bs.length = m) : 2 * k + 2 ≤ (U8 (hexL (bs.take k) ++ List.replicate (2 * (m - k)) 0)).length := by
  simp [U8, hexL_len]; omega

def goodU (xs : List Int) : Bool := decide (xs.length % 2 = 0) && xs.all digOk
def unB (xs : List Int) (k : Nat) : Int := digV (xs.getD (2 * k) 0) * 16 + digV (xs.getD (2 * k + 1) 0)
def unL (xs : List Int) (n : Nat) : List Int := (List.range n).map (unB xs)
theorem unL_len (xs : List Int) (n : Nat) : (unL xs n).length = n := by simp [unL]
theorem unL_succ (xs : List Int) (n : Nat) : unL xs (n + 1) = unL xs n ++ [unB xs n] := by simp [unL, List.range_succ]
theorem or16 (a b : Int) (h0 : 0 ≤ a) (h1 : a < 16) (h2 : 0 ≤ b) (h3 : b < 16) : bits .or .u8 (a * 16) b = a * 16 + b := by
  obtain ⟨k, rfl⟩ := Int.eq_ofNat_of_zero_le h0
  obtain ⟨l, rfl⟩ := Int.eq_ofNat_of_zero_le h2
  have h : ∀ (k l : Fin 16), bits .or .u8 ((k.val : Int) * 16) (l.val : Int) = (k.val : Int) * 16 + l.val := by decide +kernel
  exact h ⟨k, by omega⟩ ⟨l, by omega⟩
def UnR (w : World) (xs : List Int) (e : Ending) (w' : World) : Prop := Below w.heap.size w w' ∧
  if goodU xs = true then e = .returned (.tuple #[.slice (some ⟨w.heap.size, 0, none⟩) (xs.length / 2) (xs.length / 2), .int .u8 0]) ∧ Row w' w.heap.size 5 (U8 (unL xs (xs.length / 2)))
  else e = .returned (.tuple #[.slice none 0 0, .int .u8 5])
theorem UnR.bad {w w' : World} {xs : List Int} {e : Ending} (h : goodU xs = false) (hb : Below w.heap.size w w') (he : e = .returned (.tuple #[.slice none 0 0, .int .u8 5])) : UnR w xs e w' := ⟨hb, by rw [h]; exact he⟩
structure UX (w : World) (xs : List Int) (m k : Nat) (wr : World) : Prop where
  r : Row wr w.heap.size 5 (U8 (unL xs k ++ List.replicate (m - k) 0))
  bw : Below w.heap.size w wr
  ok : ∀ j, j < 2 * k → digOk (xs.getD j 0) = true
theorem UX.step {w wr W : World} {xs : List Int} {m k : Nat} {x : Int} (H : UX w xs m k wr) (hk : k < m) (hx : x = unB xs k) (h1 : digOk (xs.getD (2 * k) 0) = true) (h2 : digOk (xs.getD (2 * k + 1) 0) = true)
    (r : Row W w.heap.size 5 (U8 (unL xs k ++ List.replicate (m - k) 0))) (bw : Below w.heap.size w W) : UX w xs m (k + 1) (W.setCells w.heap.size k [.int .u8 x]) := by
  subst hx
  refine ⟨?_, below_setCells (Nat.le_refl _) _ _ _ bw, fun j hj => ?_⟩
  · rw [unL_succ]
    have e2 : List.replicate (m - k) (0 : Int) = [0] ++ List.replicate (m - (k + 1)) 0 := by
      rw [show m - k = (m - (k + 1)) + 1 by omega, List.replicate_succ]; rfl
    have h1 : Row W w.heap.size 5 (U8 (unL xs k) ++ [Value.int .u8 0] ++ U8 (List.replicate (m - (k + 1)) 0)) := by
      rw [e2] at r
      simpa [U8] using r
    have h2 := Row.setCells [Value.int .u8 (unB xs k)] _ _ _ W h1 rfl
    rw [show (U8 (unL xs k)).length = k by simp [U8, unL_len]] at h2
    simpa [U8] using h2
  · rcases (show j < 2 * k ∨ j = 2 * k ∨ j = 2 * k + 1 by omega) with h | rfl | rfl
    · exact H.ok j h
    · exact h1
    · exact h2
theorem UX.len {w wr : World} {xs : List Int} {m k : Nat} (_H : UX w xs m k wr) (hk : k < m) : k + 1 ≤ (U8 (unL xs k ++ List.replicate (m - k) 0)).length := by
  simp [U8, unL_len]; omega
theorem UX.all {w wr : World} {xs : List Int} {m : Nat} (H : UX w xs m m wr) (hm : xs.length = 2 * m) : goodU xs = true := by
  unfold goodU
  rw [Bool.and_eq_true, List.all_eq_true]
  refine ⟨by simp; omega, fun x hx => ?_⟩
  obtain ⟨j, hj, rfl⟩ := List.getElem_of_mem hx
  have := H.ok j (by omega)
  rwa [List.getD_eq_getElem?_getD, List.getElem?_eq_getElem hj] at this

def URI : List Int := [117, 114, 105]
def NC : List Int := [110, 99]

def upC (c : Int) : Int := if 97 ≤ c ∧ c ≤ 122 then c - 32 else c
def capC (b : Bool) (c : Int) : Int := if b = true then upC c else lowC c
def capStep (s : List Int × Bool) (c : Int) : List Int × Bool := (s.1 ++ [capC s.2 c], capC s.2 c == 45)
def capF (xs : List Int) : List Int × Bool := xs.foldl capStep ([], true)
def capL (xs : List Int) : List Int := (capF xs).1
theorem capF_snoc (xs : List Int) (c : Int) : capF (xs ++ [c]) = capStep (capF xs) c := by unfold capF; rw [List.foldl_append]; rfl
theorem capF_len : ∀ (xs : List Int) (s : List Int × Bool), (xs.foldl capStep s).1.length = s.1.length + xs.length
  | [], s => by simp
  | c :: xs, s => by rw [List.foldl_cons, capF_len xs, List.length_cons]; simp [capStep]; omega
theorem capL_len (xs : List Int) : (capL xs).length = xs.length := by unfold capL capF; rw [capF_len]; simp
def SPECIALS : List (List Int) := [[67, 97, 108, 108, 45, 73, 68], [67, 83, 101, 113], [77, 73, 77, 69, 45, 86, 101, 114, 115, 105, 111, 110], [77, 105, 110, 45, 83, 69], [82, 65, 99, 107], [82, 83, 101, 113], [87, 87, 87, 45, 65, 117, 116, 104, 101, 110, 116, 105, 99, 97, 116, 101]]
def LONGS : List (Int × List Int) := [(98, [82, 101, 102, 101, 114, 114, 101, 100, 45, 66, 121]), (99, [67, 111, 110, 116, 101, 110, 116, 45, 84, 121, 112, 101]), (101, [67, 111, 110, 116, 101, 110, 116, 45, 69, 110, 99, 111, 100, 105, 110, 103]), (102, [70, 114, 111, 109]), (105, [67, 97, 108, 108, 45, 73, 68]), (107, [83, 117, 112, 112, 111, 114, 116, 101, 100]), (108, [67, 111, 110, 116, 101, 110, 116, 45, 76, 101, 110, 103, 116, 104]), (109, [67, 111, 110, 116, 97, 99, 116]), (111, [69, 118, 101, 110, 116]), (114, [82, 101, 102, 101, 114, 45, 84, 111]), (115, [83, 117, 98, 106, 101, 99, 116]), (116, [84, 111]), (117, [65, 108, 108, 111, 119, 45, 69, 118, 101, 110, 116, 115]), (118, [86, 105, 97]), (120, [83, 101, 115, 115, 105, 111, 110, 45, 69, 120, 112, 105, 114, 101, 115])]
def longL (c : Int) : List Int := ((LONGS.find? (fun q => q.1 == c)).map (·.2)).getD []
def canonT (xs : List Int) : List Int := if xs.length = 1 ∧ longL (lowC (xs.getD 0 0)) ≠ [] then longL (lowC (xs.getD 0 0)) else (SPECIALS.find? (fun s => lowS s == lowS xs)).getD (capL xs)
def canonL (xs : List Int) : Option (List Int) := if isToken xs = true ∧ xs.length ≤ 64 then some (canonT xs) else none

def isDig (c : Int) : Bool := decide (48 ≤ c) && decide (c ≤ 57)
def valL (l : List Int) : Int := l.foldl (fun n c => 10 * n + (c - 48)) 0
def decnL (xs : List Int) : Int × Int := if xs.length < 1 ∨ 10 < xs.length ∨ xs.all isDig = false then (0, 5) else if 2147483647 < valL xs then (0, 3) else (valL xs, 0)
theorem valL_snoc (l : List Int) (c : Int) : valL (l ++ [c]) = 10 * valL l + (c - 48) := by simp [valL]
theorem valL_fold : ∀ (l : List Int) (a : Int), 0 ≤ a → l.all isDig = true → 0 ≤ l.foldl (fun n c => 10 * n + (c - 48)) a ∧ l.foldl (fun n c => 10 * n + (c - 48)) a < (a + 1) * 10 ^ l.length
  | [], a, h, _ => by simp; omega
  | c :: l, a, h, hd => by
    rw [List.all_cons, Bool.and_eq_true] at hd
    have h3 := hd.1
    unfold isDig at h3
    simp at h3
    obtain ⟨h1, h2⟩ := valL_fold l (10 * a + (c - 48)) (by omega) hd.2
    rw [List.foldl_cons, List.length_cons, Int.pow_succ]
    refine ⟨h1, Int.lt_of_lt_of_le h2 ?_⟩
    have h4 : (10 * a + (c - 48) + 1) * 10 ^ l.length ≤ (10 * (a + 1)) * 10 ^ l.length := Int.mul_le_mul_of_nonneg_right (by omega) (Int.pow_nonneg (by decide))
    rw [show (a + 1) * (10 ^ l.length * 10) = (10 * (a + 1)) * 10 ^ l.length by rw [Int.mul_comm 10 (a + 1), Int.mul_assoc, Int.mul_comm (10 ^ l.length) 10]]
    exact h4
theorem valL_range (l : List Int) (h : l.all isDig = true) : 0 ≤ valL l ∧ valL l < 10 ^ l.length := by
  have := valL_fold l 0 (by decide) h
  rw [Int.zero_add, Int.one_mul] at this
  exact this
theorem all_take_succ {p : Int → Bool} {l : List Int} {k : Nat} (h : k < l.length) : (l.take (k + 1)).all p = ((l.take k).all p && p (l.getD k 0)) := by rw [take_snocI l h, List.all_append]; simp
theorem all_no {p : Int → Bool} {l : List Int} {k : Nat} (h : k < l.length) (hp : p (l.getD k 0) = false) : l.all p = false := by
  rw [← List.take_append_drop (k + 1) l, List.all_append, all_take_succ h, hp]; simp
def eqN (a b : Option (List Int)) : Bool := match a, b with
  | some x, some y => x == y
  | _, _ => false
structure Pm where
  n : List Int
  v : List Int
  h : Bool
def holdsL (l : List Pm) (n : List Int) : Bool := l.any fun p => p.n == n
def roomL (l : List Pm) (n : List Int) : Int := if holdsL l n = true then 7 else if 16 ≤ l.length then 4 else 0

def isLet (c : Int) : Bool := (decide (97 ≤ c) && decide (c ≤ 122)) || (decide (65 ≤ c) && decide (c ≤ 90))
def MARKS : List Int := [45, 95, 46, 33, 126, 42, 39, 40, 41]
def clsL (k : Int) : List Int := if k = 0 then [38, 61, 43, 36, 44, 59, 63, 47] else if k = 1 then [91, 93, 47, 58, 38, 43, 36] else if k = 2 then [91, 93, 47, 63, 58, 43, 36] else []
def inC (k c : Int) : Bool := (isLet c || (isDig c || MARKS.contains c)) || (clsL k).contains c
def hexU (n : Int) : Int := if n < 10 then 48 + n else 55 + n
def escC2 (k c : Int) : List Int := if inC k c = true then [c] else [37, hexU (c / 16), hexU (c % 16)]
def escT (k : Int) (xs : List Int) : List Int := xs.flatMap (escC2 k)
def hexV (c : Int) : Int := if 48 ≤ c ∧ c ≤ 57 then c - 48 else if 97 ≤ c ∧ c ≤ 102 then c - 87 else if 65 ≤ c ∧ c ≤ 70 then c - 55 else -1
def escAt (xs : List Int) (i : Nat) : Int := if xs.length ≤ i + 2 ∨ xs.getD i 0 ≠ 37 ∨ hexV (xs.getD (i + 1) 0) < 0 ∨ hexV (xs.getD (i + 2) 0) < 0 then -1 else 16 * hexV (xs.getD (i + 1) 0) + hexV (xs.getD (i + 2) 0)
def unescN (xs : List Int) : Nat → Nat → List Int → List Int × Nat × Int
  | 0, _, acc => (acc, 0, 0)
  | f + 1, i, acc =>
    if xs.length ≤ i then (acc, 0, 0)
    else if xs.getD i 0 ≠ 37 then unescN xs f (i + 1) (acc ++ [xs.getD i 0])
    else if escAt xs i < 0 then ([], i, 5)
    else unescN xs f (i + 3) (acc ++ [escAt xs i])
def unescL (xs : List Int) : List Int × Nat × Int := unescN xs (xs.length + 1) 0 []
def contL (xs : List Int) : List Int := (unescL xs).1
def wrongN (xs : List Int) (k : Int) : Nat → Nat → Option Nat
  | 0, _ => none
  | f + 1, i =>
    if xs.length ≤ i then none
    else if inC k (xs.getD i 0) = true then wrongN xs k f (i + 1)
    else if escAt xs i < 0 ∨ isCtl (escAt xs i) = true then some i
    else wrongN xs k f (i + 3)
def wrongL (xs : List Int) (k : Int) (i : Nat) : Option Nat := wrongN xs k (xs.length + 1) i
theorem hexU_by {n : Int} (h : 0 ≤ n ∧ n < 16) : 0 ≤ hexU n ∧ hexU n < 256 := by unfold hexU; split <;> omega
theorem hexV_range (c : Int) : -1 ≤ hexV c ∧ hexV c < 16 := by unfold hexV; split <;> (try split) <;> (try split) <;> omega
theorem escAt_range (xs : List Int) (i : Nat) : -1 ≤ escAt xs i ∧ escAt xs i < 256 := by
  unfold escAt
  have h1 := hexV_range (xs.getD (i + 1) 0)
  have h2 := hexV_range (xs.getD (i + 2) 0)
  split <;> omega
theorem escT_by {k : Int} {xs : List Int} (h : By xs) : By (escT k xs) := fun x hx => by
  unfold escT at hx
  obtain ⟨c, hc, hx⟩ := List.mem_flatMap.1 hx
  have h1 := h c hc
  unfold escC2 at hx
  split at hx
  · rw [List.mem_singleton] at hx; subst hx; exact h1
  · simp at hx
    rcases hx with rfl | rfl | rfl
    · omega
    · exact hexU_by (by omega)
    · exact hexU_by (by omega)
theorem escT_snoc (k : Int) (xs : List Int) (c : Int) : escT k (xs ++ [c]) = escT k xs ++ escC2 k c := by unfold escT; simp
theorem escT_len (k : Int) (xs : List Int) : xs.length ≤ (escT k xs).length ∧ (escT k xs).length ≤ 3 * xs.length := by
  induction xs with
  | nil => exact ⟨Nat.le_refl _, Nat.le_refl _⟩
  | cons c xs ih =>
    have h1 : escT k (c :: xs) = escC2 k c ++ escT k xs := rfl
    have h2 : 1 ≤ (escC2 k c).length ∧ (escC2 k c).length ≤ 3 := by unfold escC2; split <;> simp
    rw [h1, List.length_append, List.length_cons]
    omega
theorem unescN_end {xs : List Int} {f i : Nat} {acc : List Int} (h : xs.length ≤ i) : unescN xs (f + 1) i acc = (acc, 0, 0) := by unfold unescN; rw [if_pos h]
theorem unescN_plain {xs : List Int} {f i : Nat} {acc : List Int} (h : i < xs.length) (h2 : xs.getD i 0 ≠ 37) : unescN xs (f + 1) i acc = unescN xs f (i + 1) (acc ++ [xs.getD i 0]) := by
  rw [show unescN xs (f + 1) i acc = if xs.length ≤ i then (acc, 0, 0) else if xs.getD i 0 ≠ 37 then unescN xs f (i + 1) (acc ++ [xs.getD i 0]) else if escAt xs i < 0 then ([], i, 5) else unescN xs f (i + 3) (acc ++ [escAt xs i]) from rfl, if_neg (by omega), if_pos h2]
theorem unescN_bad {xs : List Int} {f i : Nat} {acc : List Int} (h : i < xs.length) (h2 : xs.getD i 0 = 37) (h3 : escAt xs i < 0) : unescN xs (f + 1) i acc = ([], i, 5) := by
  rw [show unescN xs (f + 1) i acc = if xs.length ≤ i then (acc, 0, 0) else if xs.getD i 0 ≠ 37 then unescN xs f (i + 1) (acc ++ [xs.getD i 0]) else if escAt xs i < 0 then ([], i, 5) else unescN xs f (i + 3) (acc ++ [escAt xs i]) from rfl, if_neg (by omega), if_neg (fun h => h h2), if_pos h3]
theorem unescN_esc {xs : List Int} {f i : Nat} {acc : List Int} (h : i < xs.length) (h2 : xs.getD i 0 = 37) (h3 : ¬ escAt xs i < 0) : unescN xs (f + 1) i acc = unescN xs f (i + 3) (acc ++ [escAt xs i]) := by
  rw [show unescN xs (f + 1) i acc = if xs.length ≤ i then (acc, 0, 0) else if xs.getD i 0 ≠ 37 then unescN xs f (i + 1) (acc ++ [xs.getD i 0]) else if escAt xs i < 0 then ([], i, 5) else unescN xs f (i + 3) (acc ++ [escAt xs i]) from rfl, if_neg (by omega), if_neg (fun h => h h2), if_neg h3]

def quoteV (xs : List Int) : Value := if clean xs = true then .tuple #[.string (strOfNums (quoteL xs)), .int .u8 0] else .tuple #[.string ⟨#[]⟩, .int .u8 5]
theorem quoteV_yes {xs : List Int} (h : clean xs = true) : quoteV xs = .tuple #[.string (strOfNums (quoteL xs)), .int .u8 0] := if_pos h
theorem quoteV_no {xs : List Int} (h : clean xs = false) : quoteV xs = .tuple #[.string ⟨#[]⟩, .int .u8 5] := if_neg (by rw [h]; decide)
theorem clean_no {xs : List Int} {k : Nat} (hk : k < xs.length) (h : isCtl (xs.getD k 0) = true) : clean xs = false := by
  cases hc : clean xs with
  | false => rfl
  | true =>
    have := List.all_eq_true.1 hc _ (getD_mem hk)
    rw [h] at this
    cases this
theorem clean_all {xs : List Int} (h : ∀ j, j < xs.length → isCtl (xs.getD j 0) = false) : clean xs = true := by
  refine List.all_eq_true.2 fun x hx => ?_
  obtain ⟨j, hj, rfl⟩ := List.getElem_of_mem hx
  have := h j hj
  rw [List.getD_eq_getElem?_getD, List.getElem?_eq_getElem hj] at this
  simpa using this
theorem OX.made (w : World) (c : Nat) (hc : c ≤ 16777216) : OX w (.slice (some ⟨w.heap.size, 0, none⟩) 0 c) [] (w.alloc (.cells (U8 (List.replicate c 0)).toArray 5)) :=
  ⟨⟨rfl, .inr ⟨_, c, _, rfl, Nat.le_refl _, heap_alloc_new w _, Nat.zero_le _, by unfold maxLen; omega, by simp [U8], by simp [U8]⟩⟩, (Below.refl _ _).alloc (Nat.le_refl _) _⟩
theorem wpList_make0 {ops : Array Oper} {rest : List Oper} {op : Oper} {a : Act} {w : World} {Q : Exit → Act → World → Prop} (hgd : op.guard = none) (x y : Operand) (c : Nat) (ho : op.op = .makeSlice 69 x y) (h1 : a.eval x = .int .i64 ((0 : Nat) : Int)) (h2 : a.eval y = .int .i64 (c : Nat)) (hc : c ≤ 16777216)
    (h : ∀ v' w', OX w v' [] w' → wpList Tryz.prog ops Q rest (a.put op.dst v') w') : wpList Tryz.prog ops Q (op :: rest) a w :=
  wpList_value hgd _ _ (exec_make (l := 0) (c := c) ho h1 h2 (Nat.zero_le _) hc) (h _ _ (OX.made w c hc))
def QR (w : World) (xs : List Int) (m : Nat) (v v16 : Value) (wr : World) : Prop := ∃ (k : Nat) (x : Value) (L : List Int), k ≤ m ∧ x = v ∧ v16 = .int .i64 k ∧ L.length ≤ 2 * k + 1 ∧ Hid (L = 34 :: escL (xs.take k) ∧ OX w x L wr ∧ ∀ j, j < k → isCtl (xs.getD j 0) = false)
set_option maxRecDepth 100000 in
theorem quote_any (s : ByteArray) (w : World) (hM : s.size ≤ 4000000) :
    Calls Tryz.prog 111 #[.string s] w fun e w' => e = .returned (quoteV (byteL s)) ∧ Below w.heap.size w w' := by
  have HB := kd (byteL_by s)
  have HL := kd (byteL_len s)
  have QY := kd (fun h => quoteV_yes (xs := byteL s) h)
  have QN := kd (fun h => quoteV_no (xs := byteL s) h)
  generalize quoteV (byteL s) = QV at *
  generalize hX : byteL s = X at *
  have HX := kd hX
  clear hX
  go_enter Tryz.func111, Tryz.ntmps111
  go_wp2_with (with_reducible refine wpList_make0 rfl _ _ (s.size + 2) rfl ?h1 ?h2 (by omega) ?_)
  case h1 => rfl
  case h2 => exact congrArg (Value.int .i64) (by push_cast; rfl)
  intro v0 w0 m0
  have M0 := kd m0
  clear m0
  go_wp2_with (with_reducible refine wpList_push1 rfl (.tmp 11) (.tmp 12) rfl v0 [] rfl M0.out 34 rfl (by decide) ?_)
  intro v1 w1 L1 E1 l1 M1
  clear M0
  go_wp2_with fail
  go_loopw [4, 16] (fun v v16 wr => QR w X s.size v v16 wr) (fun _ v _ => s.size - (intOf v).toNat)
  case atStart => exact ⟨0, _, L1, Nat.zero_le _, rfl, rfl, by omega, kd ⟨E1.out, M1.out, fun j hj => absurd hj (by omega)⟩⟩
  case round =>
    clear M1 E1 l1
    obtain ⟨k, x, L, hk, rfl, rfl, hL, H⟩ := hrel
    by_cases hlt : k < s.size
    · have hd : decide ((k : Int) < (s.size : Int)) = true := by simp; omega
      have d1 := fun w => idx_str s (i := k) hlt (z := (k : Int)) rfl w
      have hx2 := HB.out _ (getD_mem (l := X) (i := k) (by rw [HL.out]; exact hlt))
      rw [HX.out] at d1
      have CN := kd (fun h => clean_no (xs := X) (k := k) (by rw [HL.out]; exact hlt) h)
      have TS := kd (take_snocI X (k := k) (by rw [HL.out]; exact hlt))
      have NX := kd (show isCtl (X.getD k 0) = false → ∀ j, j < k + 1 → isCtl (X.getD j 0) = false from fun h j hj => by
        rcases (show j < k ∨ j = k by omega) with h1 | rfl
        · exact H.out.2.2 j h1
        · exact h)
      generalize X.getD k 0 = c at *
      go_wp2_with fail
      refine (control_any c _ hx2.1 hx2.2).mono ?_
      rintro e w' ⟨rfl, rfl⟩
      cases hp : isCtl c with
      | true =>
        go_wp2_with fail
        go_ret2
        exact ⟨by rw [QN.out (CN.out hp)]; rfl, H.out.2.1.bw⟩
      | false =>
        have PP := kd hp
        clear hp
        by_cases h34 : c = 34 ∨ c = 92
        · have EC := kd (show escC c = [92, c] from if_pos h34)
          have hb : (c == 34) = true ∨ ((c == 34) = false ∧ (c == 92) = true) := by
            rcases h34 with rfl | rfl
            · exact .inl rfl
            · exact .inr ⟨rfl, rfl⟩
          clear h34
          rcases hb with hb | ⟨hb, hb2⟩
          all_goals
            go_wp2_with (with_reducible refine wpList_push1 rfl (.tmp 30) (.tmp 31) rfl x L rfl H.out.2.1 92 rfl (by omega) ?_)
            intro v2 w2 L2 E2 l2 M2
            go_wp2_with (with_reducible refine wpList_push1 rfl (.tmp 33) (.tmp 37) rfl v2 L2 rfl M2.out c rfl (by omega) ?_)
            intro v3 w3 L3 E3 l3 M3
            go_wp2_with fail
            go_roundw
            case rel => exact ⟨k + 1, v3, L3, by omega, rfl, by go_num, by omega, kd ⟨by rw [E3.out, E2.out, TS.out, escL_snoc, EC.out, H.out.1]; simp, M3.out, NX.out PP.out⟩⟩
            case measure => simp [intOf]; omega
        · have EC := kd (show escC c = [c] from if_neg h34)
          have hb : (c == 34) = false := by simp; omega
          have hb2 : (c == 92) = false := by simp; omega
          clear h34
          go_wp2_with (with_reducible refine wpList_push1 rfl (.tmp 33) (.tmp 37) rfl x L rfl H.out.2.1 c rfl (by omega) ?_)
          intro v3 w3 L3 E3 l3 M3
          go_wp2_with fail
          go_roundw
          case rel => exact ⟨k + 1, v3, L3, by omega, rfl, by go_num, by omega, kd ⟨by rw [E3.out, TS.out, escL_snoc, EC.out, H.out.1]; simp, M3.out, NX.out PP.out⟩⟩
          case measure => simp [intOf]; omega
    · obtain rfl : k = s.size := by omega
      have CA := kd (clean_all (xs := X) (fun j hj => H.out.2.2 j (by rw [HL.out] at hj; exact hj)))
      have LE := kd (show L = 34 :: escL X by rw [H.out.1, List.take_of_length_le (by rw [HL.out]; exact Nat.le_refl _)])
      go_wp2_with (with_reducible refine wpList_push1 rfl (.tmp 40) (.tmp 41) rfl x L rfl H.out.2.1 34 rfl (by omega) ?_)
      intro v3 w3 L3 E3 l3 M3
      have cv := conv_owned M3.out.o
      go_wp2_with fail
      go_ret2
      exact ⟨by rw [QY.out CA.out, E3.out, LE.out]; rfl, M3.out.bw⟩
end Go.Proofs.YthfonniieaiocaaGreatDoor
