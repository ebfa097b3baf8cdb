/- What Issue answers; strconv.Itoa; the reference 03's Decimal. -/
import Derived.Test.YtfhbpgickkibmaaGreatDoorRd
import Derived.Test.YtfhbpgickkibmaaGreatDoorLi
import Derived.Lib.AppendIntMem
import Derived.Lib.ItoaLen
namespace Go.Proofs.YtfhbpgickkibmaaGreatDoor
open Go.RowKit

/-- A number's decimal digits. -/
def decL (n : Int) : List Int := bl (Lib.itoa n)
theorem decL_by (n : Int) : By (decL n) := bl_by _
theorem decL_len {n : Int} (h0 : 0 ≤ n) (h1 : n ≤ 9223372036854775807) : (decL n).length ≤ 21 := by
  unfold decL bl
  rw [List.length_map]
  exact Lib.itoa_length_le n (by omega) h1
def PT (w : World) : Prop := Lib.TabIs Tryz.prog w "internal/strconv.uint64pow10" .u64 Lib.pow10Tab
theorem PT.below {w w' : World} (h : PT w) (hb : Below w.heap.size w w') : PT w' := Lib.tabBelow_of_tabIs h w' hb
theorem itoa_any (n : Int) (w : World) (h0 : 0 ≤ n) (h1 : n ≤ 9223372036854775807) (hP : PT w) : Calls Tryz.prog 66 #[.int .i64 n] w fun e w' => e = .returned (.string (strOfNums (decL n))) ∧ Below w.heap.size w w' :=
  (Tryz.strconv_Itoa n (by omega) h1 w hP).mono fun e w' ⟨he, k, os, hw⟩ => ⟨by rw [he, mk_str (rfl : bl (Lib.itoa n) = bl (Lib.itoa n))]; rfl, by rw [hw]; exact Lib.below_grow _ _ (Nat.le_refl _) _ _⟩
/-- The list of nonces behind a new one. -/
def nextN (l : List Nce) (x : Nce) : List Nce := if 64 < l.length + 1 then (l ++ [x]).drop 1 else l ++ [x]
structure IR where
  re : ByteArray
  ke : ByteArray
  life : Int
  iss : Int
  l : List Nce
  cr : ByteArray
  cn : ByteArray
  ci : Bool
  q : Int
def badI (re ke : ByteArray) (life iss now : Int) (l : List Nce) : Bool := !validG (byteL re) (byteL ke) life iss l || (iss == 2147483647 || (decide (now < 0) || decide (1099511627776 < now)))
def txtI (ke : ByteArray) (iss now : Int) : ByteArray := strOfNums (hashL [byteL ke, decL iss, decL now])
/-- What Issue answers. -/
def issL (re ke : ByteArray) (life iss now : Int) (l : List Nce) : IR :=
  if badI re ke life iss now l = true then ⟨⟨#[]⟩, ⟨#[]⟩, 0, 0, [], ⟨#[]⟩, ⟨#[]⟩, false, 2⟩ else ⟨re, ke, life, iss + 1, nextN l ⟨txtI ke iss now, now, 0⟩, re, txtI ke iss now, true, 0⟩
theorem issL_bad {re ke : ByteArray} {life iss now : Int} {l : List Nce} (h : badI re ke life iss now l = true) : issL re ke life iss now l = ⟨⟨#[]⟩, ⟨#[]⟩, 0, 0, [], ⟨#[]⟩, ⟨#[]⟩, false, 2⟩ := if_pos h
theorem issL_ok {re ke : ByteArray} {life iss now : Int} {l : List Nce} (h : badI re ke life iss now l = false) : issL re ke life iss now l = ⟨re, ke, life, iss + 1, nextN l ⟨txtI ke iss now, now, 0⟩, re, txtI ke iss now, true, 0⟩ := if_neg (by rw [h]; decide)
theorem badI_ok {re ke : ByteArray} {life iss now : Int} {l : List Nce} (h : badI re ke life iss now l = false) : l.length ≤ 64 ∧ 0 ≤ iss ∧ iss ≤ 2147483647 := by
  unfold badI at h
  have h1 : validG (byteL re) (byteL ke) life iss l = true := by
    cases hv : validG (byteL re) (byteL ke) life iss l
    · rw [hv] at h; cases h
    · rfl
  unfold validG at h1
  simp only [Bool.and_eq_true, decide_eq_true_eq] at h1
  exact ⟨h1.2.2.2.2.2.2.1, h1.2.2.2.2.1, h1.2.2.2.2.2.1⟩
/-- What both hand back. -/
def IssP (V : IR) (w : World) (e : Ending) (w' : World) : Prop := Below w.heap.size w w' ∧ ∃ A c, e = .returned (.tuple #[.agg #[.string V.re, .string V.ke, .int .i64 V.life, .int .i64 V.iss, .slice A V.l.length c], .agg #[.string V.cr, .string V.cn, .string ⟨#[]⟩, .bool V.ci, .bool false], .int .u8 V.q]) ∧ (A = none → V.l.length = 0 ∧ c = 0) ∧ (∀ b o s, A = some ⟨b, o, s⟩ → w.heap.size ≤ b) ∧ Rds w' w'.heap.size A (ncs V.l)
theorem IssP.zero {V : IR} {w w' : World} (h : V = ⟨⟨#[]⟩, ⟨#[]⟩, 0, 0, [], ⟨#[]⟩, ⟨#[]⟩, false, 2⟩) (hb : Below w.heap.size w w') : IssP V w (.returned (.tuple #[.agg #[.string ⟨#[]⟩, .string ⟨#[]⟩, .int .i64 0, .int .i64 0, .slice none 0 0], .agg #[.string ⟨#[]⟩, .string ⟨#[]⟩, .string ⟨#[]⟩, .bool false, .bool false], .int .u8 2])) w' := ⟨hb, none, 0, by rw [h]; rfl, by rw [h]; exact fun _ => ⟨rfl, rfl⟩, (fun b o s e => by cases e), by rw [h]; exact fun h => absurd h (by simp [ncs])⟩
theorem IssP.of {V : IR} {w w' : World} {re ke cn : ByteArray} {life iss : Int} {l : List Nce} {A : Option Addr} {n c : Nat} (h : V = ⟨re, ke, life, iss, l, re, cn, true, 0⟩) (hb : Below w.heap.size w w') (hn : l.length = n) (ha : A ≠ none) (hf : ∀ b o s, A = some ⟨b, o, s⟩ → w.heap.size ≤ b) (hA : Rds w' w'.heap.size A (ncs l)) :
    IssP V w (.returned (.tuple #[.agg #[.string re, .string ke, .int .i64 life, .int .i64 iss, .slice A n c], .agg #[.string re, .string cn, .string ⟨#[]⟩, .bool true, .bool false], .int .u8 0])) w' := ⟨hb, A, c, by rw [h, ← hn], fun e => absurd e ha, hf, by rw [h]; exact hA⟩
theorem results_cct {fn : Func} {t u v : Tmp} {ty ty2 : TypeId} (h : fn.results = #[.cell t ty, .cell u ty2, .tmp v]) (tmps : Array Value) (P : Program) (w : World) (b b2 : Nat) (cs cs2 : List Value) (d d2 : TypeDesc)
    (ht : tmps.getD t undef = .pointer (some ⟨b, 0, none⟩)) (hc : w.rangeAt b 0 cs) (hu : P.underlying ty = some d) (hd : d.isRow = true) (hi : (P.info? ty).map (·.size) = some cs.length)
    (ht2 : tmps.getD u undef = .pointer (some ⟨b2, 0, none⟩)) (hc2 : w.rangeAt b2 0 cs2) (hu2 : P.underlying ty2 = some d2) (hd2 : d2.isRow = true) (hi2 : (P.info? ty2).map (·.size) = some cs2.length) :
    (results fn tmps).run P w = .ok (.tuple #[.agg cs.toArray, .agg cs2.toArray, tmps.getD v undef]) w := by
  have hl := run_loadVar_mid (P := P) w b 0 ty cs d hc hu hd hi
  have hl2 := run_loadVar_mid (P := P) w b2 0 ty2 cs2 d2 hc2 hu2 hd2 hi2
  simp only [results, h]
  simp [-Array.getD_eq_getD_getElem?, ht, ht2, asAddr, hl, hl2]
theorem sizeCh5 : (Tryz.prog.info? 36).map (·.size) = some 5 := by kernel_rfl
theorem sizeCh (a b c d e : Value) : (Tryz.prog.info? 36).map (·.size) = some [a, b, c, d, e].length := sizeCh5
theorem ch_one (a b c : ByteArray) (d e : Bool) : ∀ u ∈ [Value.string a, .string b, .string c, .bool d, .bool e], u.oneCell' = true := fun u hu => by
  simp at hu
  rcases hu with rfl | rfl | rfl | rfl | rfl <;> rfl
theorem wpList_pushN {w wr : World} {ops : Array Oper} {rest : List Oper} {o : Oper} {a : Act} {Q : Exit → Act → World → Prop} (hgd : o.guard = none) (s x : Operand)
    (ho : o.op = .call { callee := .builtin .append, args := #[s, x], argTypes := #[47, 47] }) (v : Value) (n : Nat) (l : List Nce) (hn : l.length = n) (hs : a.eval s = v) (H : VX 76 3 w v n (ncs l) wr) (p : Nce) (hx : a.eval x = .slice (some ⟨wr.heap.size, 0, none⟩) 1 1) (hb : n + 1 ≤ 16777216)
    (h : ∀ v' w', Hid (VX 76 3 w v' (n + 1) (ncs (l ++ [p])) w') → wpList Tryz.prog ops Q rest (a.put o.dst v') w') : wpList Tryz.prog ops Q (o :: rest) a (wr.alloc (.cells #[.string p.v, .int .i64 p.a, .int .i64 p.k] 76)) :=
  wpList_pushT hgd s x ho Tryz.underlying47 infoNc rfl (by omega) (by omega) v n (ncs l) hs H [.string p.v, .int .i64 p.a, .int .i64 p.k] rfl (nc_one p.v p.a p.k) hx hb fun v' w' h1 => h v' w' (Lib.hid (by
      have := h1.out
      rw [ncs_snoc]
      exact this))
theorem Rds.heapS {w w' : World} {A : Option Addr} {cs : List Value} {x : Nat} (h : Rds w w.heap.size A cs) (hp : ∀ b o s, A = some ⟨b, o, s⟩ → b ≠ x) (hs : w'.heap.size = w.heap.size) (hh : ∀ b', b' ≠ x → w'.heap[b']? = w.heap[b']?) : Rds w' w'.heap.size A cs := fun hn => by
  obtain ⟨b, o, e, hb, hc⟩ := h hn
  refine ⟨b, o, e, by rw [hs]; exact hb, fun j u hu => ?_⟩
  rw [World.cell?_of_block (w := w) (a := ⟨b, o + j, none⟩) (hh b (hp b o none e))]
  exact hc j u hu
theorem size_setCells {b : Nat} : ∀ (us : List Value) (o : Nat) (w : World), (w.setCells b o us).heap.size = w.heap.size
  | [], _, _ => rfl
  | u :: us, o, w => (size_setCells us (o + 1) _).trans (by simp [World.setCell])
theorem rds_two {wv : World} {A : Option Addr} {cs : List Value} {b4 b5 : Nat} (us vs : List Value) (h : Rds wv wv.heap.size A cs) (h4 : ∀ b o s, A = some ⟨b, o, s⟩ → b ≠ b4) (h5 : ∀ b o s, A = some ⟨b, o, s⟩ → b ≠ b5) :
    Rds ((wv.setCells b4 0 us).setCells b5 0 vs).drew ((wv.setCells b4 0 us).setCells b5 0 vs).drew.heap.size A cs := by
  have h1 : Rds (wv.setCells b4 0 us) (wv.setCells b4 0 us).heap.size A cs := h.heapS h4 (size_setCells us 0 wv) (fun b' hb' => heap_setCells us 0 wv b' hb')
  have h2 : Rds ((wv.setCells b4 0 us).setCells b5 0 vs) ((wv.setCells b4 0 us).setCells b5 0 vs).heap.size A cs := h1.heapS h5 (size_setCells vs 0 _) (fun b' hb' => heap_setCells vs 0 _ b' hb')
  exact h2
theorem ncs_drop1 (p : Nce) (l : List Nce) : ncs ((p :: l).drop 1) = (ncs (p :: l)).drop 3 := by
  rw [show ncs (p :: l) = ncC p ++ ncs l from rfl]; rfl
/-- The list without its first nonce, read three cells further on. -/
theorem Rds.rest {w : World} {B b o : Nat} {l : List Nce} (h : Rds w B (some ⟨b, o, none⟩) (ncs l)) (h0 : 1 ≤ l.length) : Rds w B (some ⟨b, o + 3, none⟩) (ncs (l.drop 1)) := fun hn => by
  cases l with
  | nil => simp at h0
  | cons p l =>
    obtain ⟨b', o', e, hb, hc⟩ := h (by rw [ncs_len]; simp)
    injection e with e
    injection e with e1 e2
    subst e1 e2
    refine ⟨b, o + 3, rfl, hb, fun j u hu => ?_⟩
    rw [ncs_drop1, List.getElem?_drop] at hu
    rw [Nat.add_assoc]
    exact hc _ u hu
end Go.Proofs.YtfhbpgickkibmaaGreatDoor
