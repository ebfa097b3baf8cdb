/- Slices of structs and of texts that the call made; one more element. Plain words: the fields as parameters; what all fields hold. Plain words: what a challenge says; the names of its fields. Plain words: what a challenge prints as. Structs that lie in a block of their own: loaded, stored, handed back. The contracts of hash's digit, Hex and Unhex. -/
import Derived.Test.YthfonniieaiocaaGreatDoorMa
import Derived.Test.YthfonniieaiocaaGreatDoorPe
set_option linter.unusedVariables false
set_option linter.unusedSimpArgs false
namespace Go.Proofs.YthfonniieaiocaaGreatDoor
open Go.RowKit

/-- A slice that the call made: its cells. -/
structure VX (T : TypeId) (sz : Nat) (w : World) (v : Value) (n : Nat) (cs : List Value) (wr : World) : Prop where
  o : wr.ownsRow w.heap.size T sz v n cs
  bw : Below w.heap.size w wr
theorem VX.nil (T : TypeId) (sz : Nat) (w : World) : VX T sz w (.slice none 0 0) 0 [] w := ⟨World.ownsRow_nil _ _ _ _, Below.refl _ _⟩
theorem VX.step {T : TypeId} {sz : Nat} {w wr w' : World} {v : Value} {n : Nat} {cs : List Value} (H : VX T sz w v n cs wr) (hb : Below wr.heap.size wr w') : VX T sz w v n cs w' := by
  refine ⟨⟨H.o.1, ?_⟩, H.bw.trans (hb.mono H.bw.size)⟩
  rcases H.o.2 with h0 | ⟨g, cap, cur, h1, h2, h3, h4⟩
  · exact .inl h0
  · exact .inr ⟨g, cap, cur, h1, h2, (hb.block g (lt_of_block h3)).trans h3, h4⟩
theorem VX.drewN {T : TypeId} {sz : Nat} {w wr : World} {v : Value} {n : Nat} {cs : List Value} (H : VX T sz w v n cs wr) (q : Nat) : VX T sz w v n cs (wr.drewN q) := H.step ⟨rfl, rfl, rfl, Nat.le_refl _, fun _ _ => rfl⟩
def pcs (ps : List (Nat × List Int)) : List Value := ps.flatMap fun p => [.int .i64 (p.1 : Int), .string (strOfNums p.2)]
theorem infoS : ∃ i, Tryz.prog.info? 9 = some i ∧ i.zero = some (.string ⟨#[]⟩) ∧ i.size = 1 ∧ i.bytes = 16 := by
  have h : (Tryz.prog.info? 9).map (fun i => (i.size, i.zero, i.bytes)) = some (1, some (.string ⟨#[]⟩), 16) := by kernel_rfl
  rw [Option.map_eq_some_iff] at h
  obtain ⟨i, hi, he⟩ := h
  injection he with h1 h2
  injection h2 with h2 h3
  exact ⟨i, hi, h2, h1, h3⟩
abbrev TX (w : World) (v : Value) (zs : List ByteArray) (wr : World) : Prop := VX 9 1 w v zs.length (zs.map Value.string) wr
/-- A parameter: name, value, has. -/
structure Prm where
  n : List Int
  v : List Int
  h : Bool
  deriving DecidableEq
def prmC (p : Prm) : List Value := [.string (strOfNums p.n), .string (strOfNums p.v), .bool p.h]
def prms (ps : List Prm) : List Value := ps.flatMap prmC
abbrev RX (w : World) (v : Value) (ps : List Prm) (wr : World) : Prop := VX 56 3 w v ps.length (prms ps) wr
theorem flat_at {α : Type} (f : α → List Value) (sz : Nat) (hf : ∀ x, (f x).length = sz) : ∀ (l : List α) (k j : Nat) (x : α), l[k]? = some x → j < sz → (l.flatMap f)[k * sz + j]? = (f x)[j]?
  | [], k, j, x, h, _ => by cases h
  | y :: l, 0, j, x, h, hj => by
    cases h
    rw [List.flatMap_cons, Nat.zero_mul, Nat.zero_add, List.getElem?_append_left (by rw [hf]; exact hj)]
  | y :: l, k + 1, j, x, h, hj => by
    rw [List.flatMap_cons, List.getElem?_append_right (by rw [hf, Nat.succ_mul]; omega), hf, show (k + 1) * sz + j - sz = k * sz + j by rw [Nat.succ_mul]; omega]
    exact flat_at f sz hf l k j x h hj
/-- The cells of a slice that the call made, where they lie. -/
theorem VX.form {T : TypeId} {sz : Nat} {w wr : World} {v : Value} {n : Nat} {cs : List Value} (H : VX T sz w v n cs wr) : (v = .slice none 0 0 ∧ n = 0 ∧ cs = []) ∨ ∃ g cap, v = .slice (some ⟨g, 0, none⟩) n cap ∧ n ≤ cap ∧ w.heap.size ≤ g ∧ g < wr.heap.size ∧ ∀ (j : Nat) u, cs[j]? = some u → wr.cell? ⟨g, j, none⟩ = some u := by
  have hl := H.o.1
  rcases H.o.2 with ⟨rfl, rfl⟩ | ⟨g, cap, cur, rfl, hb, hg, hc, _, hs, ht⟩
  · exact .inl ⟨rfl, rfl, List.eq_nil_of_length_eq_zero (by simpa using hl)⟩
  · refine .inr ⟨g, cap, rfl, hc, hb, lt_of_block hg, fun j u hx => ?_⟩
    rw [cell_of_row wr g j cur T (0, 0) hg]
    have hj : j < cs.length := (List.getElem?_eq_some_iff.1 hx).1
    have h2 : (cur.toList.take (n * sz))[j]? = cs[j]? := by rw [ht]
    rw [List.getElem?_take, if_pos (by omega), hx] at h2
    simpa using h2
end Go.Proofs.YthfonniieaiocaaGreatDoor
namespace Go.Proofs.YthfonniieaiocaaGreatDoor
open Go.RowKit

def prmOf (q : List Int × List Int) : Prm := ⟨q.1, q.2, true⟩
end Go.Proofs.YthfonniieaiocaaGreatDoor
namespace Go.Proofs.YthfonniieaiocaaGreatDoor
open Go.RowKit

structure Ch where
  r : List Int
  n : List Int
  o : List Int
  i : Bool
  s : Bool
def chC (c : Ch) : List Value := [.string (strOfNums c.r), .string (strOfNums c.n), .string (strOfNums c.o), .bool c.i, .bool c.s]
def gotF (l : List (List Int × List Int)) (nm : List Int) : List Int := (getF l nm).getD []
def wordsL (xs : List Int) : List (List Int) := (cutL 44 xs).map trimB
def REALM : List Int := [114, 101, 97, 108, 109]
def NONCE : List Int := [110, 111, 110, 99, 101]
def OPAQUE : List Int := [111, 112, 97, 113, 117, 101]
def STALE : List Int := [115, 116, 97, 108, 101]
def ALG : List Int := [97, 108, 103, 111, 114, 105, 116, 104, 109]
def QOP : List Int := [113, 111, 112]
def SHA : List Int := [115, 104, 97, 45, 50, 53, 54]
def TRUE : List Int := [116, 114, 117, 101]
def AUTH : List Int := [97, 117, 116, 104]
def AUTHI : List Int := [97, 117, 116, 104, 45, 105, 110, 116]
def parseCh (xs : List Int) : Except Int Ch := match fieldsL xs with
  | .error k => .error k
  | .ok l => if (getF l REALM).isSome = false ∨ (getF l NONCE).isSome = false then .error 8
    else if lowS (gotF l ALG) ≠ SHA ∨ (wordsL (gotF l QOP)).contains AUTH = false then .error 15
    else .ok ⟨gotF l REALM, gotF l NONCE, gotF l OPAQUE, (wordsL (gotF l QOP)).contains AUTHI, lowS (gotF l STALE) == TRUE⟩
def chV : Except Int Ch → Value
  | .error k => .tuple #[.agg #[.string ⟨#[]⟩, .string ⟨#[]⟩, .string ⟨#[]⟩, .bool false, .bool false], .int .u8 k]
  | .ok c => .tuple #[.agg (chC c).toArray, .int .u8 0]
theorem cutL_sub (sep : Int) : ∀ xs : List Int, (∀ p ∈ cutL sep xs, p.Sublist xs) ∧ (cutL sep xs).length ≤ xs.length + 1
  | [] => ⟨fun p hp => by unfold cutL at hp; rw [List.mem_singleton] at hp; subst hp; exact List.Sublist.refl _, by unfold cutL; simp⟩
  | c :: r => by
    have ih := cutL_sub sep r
    by_cases h : c = sep
    · subst h
      rw [cutL_hit]
      refine ⟨fun p hp => ?_, by simp; exact ih.2⟩
      rcases List.mem_cons.1 hp with rfl | hp
      · exact List.nil_sublist _
      · exact (ih.1 p hp).cons _
    · rw [cutL_no _ _ _ h]
      cases hc : cutL sep r with
      | nil =>
        refine ⟨fun p hp => ?_, by simp [glue]⟩
        unfold glue at hp
        rw [List.mem_singleton] at hp
        subst hp
        exact (List.nil_sublist r).cons_cons c
      | cons q qs =>
        rw [hc] at ih
        refine ⟨fun p hp => ?_, by have := ih.2; simp [glue] at this ⊢; omega⟩
        unfold glue at hp
        rcases List.mem_cons.1 hp with rfl | hp
        · exact (ih.1 q (by simp)).cons_cons c
        · exact (ih.1 p (by simp [hp])).cons _
end Go.Proofs.YthfonniieaiocaaGreatDoor
namespace Go.Proofs.YthfonniieaiocaaGreatDoor
open Go.RowKit

def nq (nm xs : List Int) : List Int := nm ++ [61] ++ quoteL xs
def DIG : List Int := [68, 105, 103, 101, 115, 116, 32]
def ALGP : List Int := [97, 108, 103, 111, 114, 105, 116, 104, 109, 61, 83, 72, 65, 45, 50, 53, 54]
def STALEP : List Int := [115, 116, 97, 108, 101, 61, 116, 114, 117, 101]
def BOTH : List Int := [97, 117, 116, 104, 44, 97, 117, 116, 104, 45, 105, 110, 116]
def prV : Option (List (List Int)) → Value
  | none => .tuple #[.string ⟨#[]⟩, .int .u8 2]
  | some l => .tuple #[.string (strOfNums (DIG ++ joinL [44, 32] l)), .int .u8 0]
def addT (L : Option (List (List Int))) (nm xs : List Int) : Option (List (List Int)) := if clean xs = true then L.map (· ++ [nq nm xs]) else none
def addP (L : Option (List (List Int))) (p : List Int) : Option (List (List Int)) := L.map (· ++ [p])
def partsCh (c : Ch) : List (List Int) := [nq REALM c.r, nq NONCE c.n] ++ (if c.o = [] then [] else [nq OPAQUE c.o]) ++ [ALGP] ++ [nq QOP (if c.i = true then BOTH else AUTH)] ++ (if c.s = true then [STALEP] else [])
def printCh (c : Ch) : Option (List (List Int)) := if clean c.r = true ∧ clean c.n = true ∧ clean c.o = true then some (partsCh c) else none
/-- The writer's way. -/
def writeCh (c : Ch) : Option (List (List Int)) :=
  let L1 := addT (addT (some []) REALM c.r) NONCE c.n
  let L2 := if c.o = [] then L1 else addT L1 OPAQUE c.o
  let L3 := addP L2 ALGP
  let L4 := addT L3 QOP (if c.i = true then BOTH else AUTH)
  if c.s = true then addP L4 STALEP else L4
theorem joinL_len (sep : List Int) (m : Nat) : ∀ l : List (List Int), (∀ p ∈ l, p.length ≤ m) → (joinL sep l).length ≤ l.length * (m + sep.length)
  | [], _ => by rw [joinL_nil]; simp
  | [x], h => by rw [joinL_one]; have := h x (by simp); simp; omega
  | x :: y :: r, h => by
    have ih := joinL_len sep m (y :: r) (fun p hp => h p (by simp [hp]))
    have := h x (by simp)
    rw [joinL_cons, List.length_append, List.length_append, List.length_cons, Nat.succ_mul]
    omega
end Go.Proofs.YthfonniieaiocaaGreatDoor
namespace Go.Proofs.YthfonniieaiocaaGreatDoor
open Go.RowKit

theorem bthen {a b c : World} (h : Below a.heap.size a b) (h2 : Below b.heap.size b c) : Below a.heap.size a c := h.trans (h2.mono h.size)
theorem heap_setCells {b : Nat} : ∀ (us : List Value) (o : Nat) (w : World) (b' : Nat), b' ≠ b → (w.setCells b o us).heap[b']? = w.heap[b']?
  | [], _, _, _, _ => rfl
  | u :: us, o, w, b', h => (heap_setCells us (o + 1) _ b' h).trans (Below.heap_setCell w ⟨b, o, none⟩ u b' h)
theorem wpList_loadR {P : Program} {ops : Array Oper} {rest : List Oper} {op : Oper} {a : Act} {w : World} {Q : Exit → Act → World → Prop} (hgd : op.guard = none) (ty : TypeId) (x : Operand) (ho : op.op = .load ty x) {b : Nat} {T : TypeId} {cs : List Value} (hr : Row w b T cs)
    (hx : a.eval x = .pointer (some ⟨b, 0, none⟩)) {d : TypeDesc} (hu : P.underlying ty = some d) (hd : d.isRow = true) (hi : (P.info? ty).map (·.size) = some cs.length)
    (h : wpList P ops Q rest (a.put op.dst (.agg cs.toArray)) w) : wpList P ops Q (op :: rest) a w :=
  wpList_load_mid hgd ty x ho b 0 hx cs d hr.range hu hd hi h
theorem wpList_storeR {P : Program} {ops : Array Oper} {rest : List Oper} {op : Oper} {a : Act} {W0 w : World} {Q : Exit → Act → World → Prop} (hgd : op.guard = none) (ty : TypeId) (x y : Operand) (ho : op.op = .store ty x y) {b : Nat} {T : TypeId} {vs : List Value} (hr : Row w b T vs) (us : List Value)
    (hx : a.eval x = .pointer (some ⟨b, 0, none⟩)) (hy : a.eval y = .agg us.toArray) (hl : vs.length = us.length) (hi : (P.info? ty).map (·.size) = some us.length) (h1 : ∀ u ∈ us, u.oneCell' = true) (hbw : Below W0.heap.size W0 w) (hb : W0.heap.size ≤ b)
    (h : ∀ w', Hid (Row w' b T us) → Hid (Below W0.heap.size W0 w') → Hid (w'.heap.size = w.heap.size ∧ ∀ b', b' ≠ b → w'.heap[b']? = w.heap[b']?) → wpList P ops Q rest (a.put op.dst undef) w') : wpList P ops Q (op :: rest) a w := by
  have hz : us.toArray.size = us.length := by simp
  refine wpList_store_mid hgd ty x y ho b 0 us.toArray hx hy (by rw [hz, ← hl]; exact hr.there) (by rw [hz]; exact hi) (all_oneCell_toArray h1) ?_
  refine h _ (Lib.hid (hr.setAll us hl)) (Lib.hid (below_setCells hb us 0 _ hbw)) (Lib.hid ⟨?_, fun b' hb' => heap_setCells us 0 w b' hb'⟩)
  have hsz : ∀ (us : List Value) (o : Nat) (w : World), (w.setCells b o us).heap.size = w.heap.size := by
    intro us
    induction us with
    | nil => intro o w; rfl
    | cons u us ih => intro o w; exact (ih (o + 1) _).trans (by simp [World.setCell])
  exact hsz us 0 w
theorem results_ct {fn : Func} {t u : Tmp} {ty : TypeId} (h : fn.results = #[.cell t ty, .tmp u]) (tmps : Array Value) (P : Program) (w : World) (b : Nat) (cs : List Value) (d : TypeDesc)
    (ht : tmps.getD t undef = .pointer (some ⟨b, 0, none⟩)) (hc : w.rangeAt b 0 cs) (hu : P.underlying ty = some d) (hd : d.isRow = true) (hi : (P.info? ty).map (·.size) = some cs.length) :
    (results fn tmps).run P w = .ok (.tuple #[.agg cs.toArray, tmps.getD u undef]) w := by
  have hl := run_loadVar_mid (P := P) w b 0 ty cs d hc hu hd hi
  simp only [results, h]
  simp [-Array.getD_eq_getD_getElem?, ht, asAddr, hl]
theorem Row.heap {w w' : World} {b : Nat} {T : TypeId} {vs : List Value} (h : Row w b T vs) (he : w'.heap[b]? = w.heap[b]?) : Row w' b T vs := he.trans h
theorem VX.other {T : TypeId} {sz : Nat} {w wr w' : World} {v : Value} {n : Nat} {cs : List Value} (H : VX T sz w v n cs wr) (hb : Below w.heap.size w w') (hk : ∀ g, v.ownBlock = some g → w'.heap[g]? = wr.heap[g]?) : VX T sz w v n cs w' := by
  refine ⟨⟨H.o.1, ?_⟩, hb⟩
  rcases H.o.2 with h0 | ⟨g, cap, cur, h1, h2, h3, h4⟩
  · exact .inl h0
  · exact .inr ⟨g, cap, cur, h1, h2, (hk g (by rw [h1]; rfl)).trans h3, h4⟩
end Go.Proofs.YthfonniieaiocaaGreatDoor
namespace Go.Proofs.YthfonniieaiocaaGreatDoor
open Go.RowKit

def hexC (n : Int) : Int := if n < 10 then 48 + n else 87 + n
def hexP (b : Int) : List Int := [hexC (b / 16), hexC (b % 16)]
def hexL (bs : List Int) : List Int := bs.flatMap hexP
theorem hexL_len : ∀ bs : List Int, (hexL bs).length = 2 * bs.length
  | [] => rfl
  | b :: bs => by
    have h := hexL_len bs
    rw [show hexL (b :: bs) = hexP b ++ hexL bs from rfl, List.length_append, h, List.length_cons]
    simp [hexP]; omega
theorem hexL_snoc (bs : List Int) (b : Int) : hexL (bs ++ [b]) = hexL bs ++ [hexC (b / 16), hexC (b % 16)] := by simp [hexL, hexP]
def digOk (c : Int) : Bool := decide (48 ≤ c ∧ c ≤ 57) || (decide (97 ≤ c ∧ c ≤ 102) || decide (65 ≤ c ∧ c ≤ 70))
def digV (c : Int) : Int := if 48 ≤ c ∧ c ≤ 57 then c - 48 else if 97 ≤ c ∧ c ≤ 102 then c - 87 else if 65 ≤ c ∧ c ≤ 70 then c - 55 else 0
/-- What Hex has done after k bytes. -/
structure HX (w : World) (bs : List Int) (m k : Nat) (wr : World) : Prop where
  r : Row wr w.heap.size 5 (U8 (hexL (bs.take k) ++ List.replicate (2 * (m - k)) 0))
  bw : Below w.heap.size w wr
def HXR (w : World) (bs : List Int) (m : Nat) (v v12 : Value) (wr : World) : Prop := ∃ k : Nat, k ≤ m ∧ v = .slice (some ⟨w.heap.size, 0, none⟩) (2 * k) (2 * m) ∧ v12 = .int .i64 k ∧ HX w bs m k wr
theorem i5 : ∃ i, Tryz.prog.info? 5 = some i ∧ i.size = 1 := by
  obtain ⟨i, h1, _, h2, _⟩ := i5all
  exact ⟨i, h1, h2⟩
theorem and15 (c : Int) (h0 : 0 ≤ c) (h1 : c < 256) : bits .and .u8 c 15 = c % 16 := by
  obtain ⟨k, rfl⟩ := Int.eq_ofNat_of_zero_le h0
  have h : ∀ k : Fin 256, bits .and .u8 (k.val : Int) 15 = (k.val : Int) % 16 := by decide +kernel
  exact h ⟨k, by omega⟩
theorem HX.step {w W : World} {bs : List Int} {m k : Nat} {x : Int} (hk : k < m) (hl : bs.length = m) (e : bs.take (k + 1) = bs.take k ++ [x]) (r : Row W w.heap.size 5 (U8 (hexL (bs.take k) ++ List.replicate (2 * (m - k)) 0))) (bw : Below w.heap.size w W) :
    HX w bs m (k + 1) (W.setCells w.heap.size (2 * k) [.int .u8 (hexC (x / 16)), .int .u8 (hexC (x % 16))]) := by
  refine ⟨?_, below_setCells (Nat.le_refl _) _ _ _ bw⟩
  rw [e, hexL_snoc]
  have e2 : List.replicate (2 * (m - k)) (0 : Int) = [0, 0] ++ List.replicate (2 * (m - (k + 1))) 0 := by
    rw [show 2 * (m - k) = 2 * (m - (k + 1)) + 1 + 1 by omega, List.replicate_succ, List.replicate_succ]; rfl
  have hl2 : (U8 (hexL (bs.take k))).length = 2 * k := by simp [U8, hexL_len]; omega
  rw [← hl2]
  have h1 : Row W w.heap.size 5 (U8 (hexL (bs.take k)) ++ [Value.int .u8 0, .int .u8 0] ++ U8 (List.replicate (2 * (m - (k + 1))) 0)) := by
    rw [e2] at r
    simpa [U8] using r
  have h2 := Row.setCells [Value.int .u8 (hexC (x / 16)), .int .u8 (hexC (x % 16))] _ _ _ W h1 rfl
  simpa [U8] using h2
theorem HX.len {w wr : World} {bs : List Int} {m k : Nat} (_H : HX w bs m k wr) (hk : k < m) (hl : bs.length = m) : 2 * k + 2 ≤ (U8 (hexL (bs.take k) ++ List.replicate (2 * (m - k)) 0)).length := by
  simp [U8, hexL_len]; omega
end Go.Proofs.YthfonniieaiocaaGreatDoor
