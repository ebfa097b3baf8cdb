/- Contracts of lexis: skip, Blanks, TokenEnd, Token. And what stands behind it. -/
import Derived.Test.YthfonniieaiocaaGreatDoorCa
import Derived.Deep.RegionLaw
import Derived.Laws.BytesArg
import Derived.BigQuiet
import Derived.BigRegion
import Derived.Deep.DeepCutAuto
import Derived.Deep.MidRow
import Derived.Deep.QuietTactic
import Derived.Deep.RegionHeld3
import Derived.Laws.AppendOwnNone
import Derived.Laws.MakeOwn
import Derived.StillTailTactics
set_option linter.unusedVariables false
set_option linter.unusedSimpArgs false
set_option maxRecDepth 100000
namespace Go.Proofs.YthfonniieaiocaaGreatDoor
open Go.RowKit

theorem idx_str (s : ByteArray) {i : Nat} (hi : i < s.size) {z : Int} (hz : z = i) (w : World) : (Instr.index 9 (.string s) (.int .i64 z)).run Tryz.prog w = .ok (.int .u8 ((byteL s).getD i 0)) w := by
  subst hz
  rw [run_index_string w 9 s .i64 i Tryz.underlying9, dif_pos ⟨by omega, by omega⟩, ← byteL_at s hi]
  rfl
theorem below_drewN (w : World) (q : Nat) : Below w.heap.size w (w.drewN q) := ⟨rfl, rfl, rfl, Nat.le_refl _, fun _ _ => rfl⟩
def SKR (w : World) (lo hi : Nat) (p : Int → Bool) (xs : List Int) (v : Value) (wr : World) : Prop := ∃ k : Nat, lo ≤ k ∧ k ≤ hi ∧ skipTo p xs lo = skipTo p xs k ∧ v = .int .i64 k ∧ ∃ q, w.drewN q = wr
theorem skip_blank (s : ByteArray) (z : Int) (w : World) (hz : -9223372036854775808 ≤ z ∧ z < 9223372036854775808) (hs : s.size < 9223372036854775807) :
    Calls Tryz.prog 174 #[.string s, .int .i64 z, .func (.func 175) #[] #[]] w fun e w' => e = .returned (.int .i64 (skipTo isBlank (byteL s) (clip z s.size))) ∧ Below w.heap.size w w' := by
  have CL := kd (show clip z s.size = min z.toNat s.size from rfl)
  generalize clip z s.size = lo at *
  have HB := kd (byteL_by s)
  have HL := kd (byteL_len s)
  generalize hX : byteL s = X at *
  have HX := kd hX
  clear hX
  go_enter Tryz.func174, Tryz.ntmps174
  go_wp2_with fail
  all_goals go_loopw [1] (fun v wr => SKR w lo s.size isBlank X v wr) (fun v _ => s.size - (intOf v).toNat)
  all_goals try (
    have := CL.out
    exact ⟨lo, Nat.le_refl _, by omega, rfl, by congr 1; omega, 0, rfl⟩)
  all_goals
    obtain ⟨k, hlo, hk, hsk, rfl, q, rfl⟩ := hrel
    have SK := kd hsk; clear hsk
    by_cases hlt : k < s.size
    · have hd : decide ((k : Int) < (s.size : Int)) = true := by simp; omega
      have d1 := fun w => idx_str s (i := k) hlt (z := (k : Int)) rfl w
      have hx2 := HB.out _ (getD_mem (l := X) (i := k) (by rw [HL.out]; exact hlt))
      rw [HX.out] at d1
      have SY := kd (fun h => skip_yes (p := isBlank) (xs := X) (i := k) (by rw [HL.out]; exact hlt) h)
      have SN := kd (fun h => skip_no (p := isBlank) (xs := X) (i := k) (by rw [HL.out]; exact hlt) h)
      generalize X.getD k 0 = x at *
      go_wp2_with fail
      refine (blank_any x _ hx2.1 hx2.2).mono ?_
      rintro e w' ⟨rfl, rfl⟩
      cases hp : isBlank x with
      | true =>
        go_wp2_with fail
        go_roundw
        case rel => exact ⟨k + 1, by omega, by omega, by rw [SK.out]; exact SY.out hp, by go_num, _, rfl⟩
        case measure => simp [intOf]; omega
      | false =>
        go_wp2_with fail
        go_ret
        exact ⟨by rw [SK.out, SN.out hp]; rfl, below_drewN _ _⟩
    · obtain rfl : k = s.size := by omega
      go_wp2_with fail
      go_ret
      exact ⟨by rw [SK.out, skip_end (by rw [HL.out]; omega)]; rfl, below_drewN _ _⟩
theorem skip_token (s : ByteArray) (z : Int) (w : World) (hz : -9223372036854775808 ≤ z ∧ z < 9223372036854775808) (hs : s.size < 9223372036854775807) :
    Calls Tryz.prog 174 #[.string s, .int .i64 z, .func (.func 183) #[] #[]] w fun e w' => e = .returned (.int .i64 (skipTo isTok (byteL s) (clip z s.size))) ∧ Below w.heap.size w w' := by
  have CL := kd (show clip z s.size = min z.toNat s.size from rfl)
  generalize clip z s.size = lo at *
  have HB := kd (byteL_by s)
  have HL := kd (byteL_len s)
  generalize hX : byteL s = X at *
  have HX := kd hX
  clear hX
  go_enter Tryz.func174, Tryz.ntmps174
  go_wp2_with fail
  all_goals go_loopw [1] (fun v wr => SKR w lo s.size isTok X v wr) (fun v _ => s.size - (intOf v).toNat)
  all_goals try (
    have := CL.out
    exact ⟨lo, Nat.le_refl _, by omega, rfl, by congr 1; omega, 0, rfl⟩)
  all_goals
    obtain ⟨k, hlo, hk, hsk, rfl, q, rfl⟩ := hrel
    have SK := kd hsk; clear hsk
    by_cases hlt : k < s.size
    · have hd : decide ((k : Int) < (s.size : Int)) = true := by simp; omega
      have d1 := fun w => idx_str s (i := k) hlt (z := (k : Int)) rfl w
      have hx2 := HB.out _ (getD_mem (l := X) (i := k) (by rw [HL.out]; exact hlt))
      rw [HX.out] at d1
      have SY := kd (fun h => skip_yes (p := isTok) (xs := X) (i := k) (by rw [HL.out]; exact hlt) h)
      have SN := kd (fun h => skip_no (p := isTok) (xs := X) (i := k) (by rw [HL.out]; exact hlt) h)
      generalize X.getD k 0 = x at *
      go_wp2_with fail
      refine (token_any x _ hx2.1 hx2.2).mono ?_
      rintro e w' ⟨rfl, rfl⟩
      cases hp : isTok x with
      | true =>
        go_wp2_with fail
        go_roundw
        case rel => exact ⟨k + 1, by omega, by omega, by rw [SK.out]; exact SY.out hp, by go_num, _, rfl⟩
        case measure => simp [intOf]; omega
      | false =>
        go_wp2_with fail
        go_ret
        exact ⟨by rw [SK.out, SN.out hp]; rfl, below_drewN _ _⟩
    · obtain rfl : k = s.size := by omega
      go_wp2_with fail
      go_ret
      exact ⟨by rw [SK.out, skip_end (by rw [HL.out]; omega)]; rfl, below_drewN _ _⟩
theorem blanks_any (s : ByteArray) (z : Int) (w : World) (hz : -9223372036854775808 ≤ z ∧ z < 9223372036854775808) (hs : s.size < 9223372036854775807) :
    Calls Tryz.prog 144 #[.string s, .int .i64 z] w fun e w' => e = .returned (.int .i64 (skipTo isBlank (byteL s) (clip z s.size))) ∧ Below w.heap.size w w' := by
  have HZ := kd hz; clear hz
  go_enter Tryz.func144, Tryz.ntmps144
  go_wp2_with fail
  refine (skip_blank s z w HZ.out hs).mono ?_
  rintro e w' ⟨rfl, hb⟩
  have HB := kd hb; clear hb
  go_wp2_with fail
  go_ret
  exact ⟨rfl, HB.out⟩
theorem tokend_any (s : ByteArray) (z : Int) (w : World) (hz : -9223372036854775808 ≤ z ∧ z < 9223372036854775808) (hs : s.size < 9223372036854775807) :
    Calls Tryz.prog 155 #[.string s, .int .i64 z] w fun e w' => e = .returned (.int .i64 (skipTo isTok (byteL s) (clip z s.size))) ∧ Below w.heap.size w w' := by
  have HZ := kd hz; clear hz
  go_enter Tryz.func155, Tryz.ntmps155
  go_wp2_with fail
  refine (skip_token s z w HZ.out hs).mono ?_
  rintro e w' ⟨rfl, hb⟩
  have HB := kd hb; clear hb
  go_wp2_with fail
  go_ret
  exact ⟨rfl, HB.out⟩
theorem byteL_nil {s : ByteArray} : byteL s = [] ↔ s = ⟨#[]⟩ := by
  constructor
  · intro h
    have := str_byteL s
    rw [h] at this
    exact this.symm
  · rintro rfl; rfl
theorem toList_inj {s t : ByteArray} : s.toList = t.toList ↔ s = t := by
  rw [ByteArray.toList_eq, ByteArray.toList_eq]
  exact ⟨fun h => ByteArray.ext (Array.toList_inj.1 h), fun h => by rw [h]⟩
theorem toList_nil {s : ByteArray} : s.toList = [] ↔ s = ⟨#[]⟩ := by
  rw [ByteArray.toList_eq]
  exact ⟨fun h => ByteArray.ext (Array.toList_inj.1 h), fun h => by rw [h]⟩
theorem lexToken_any (s : ByteArray) (w : World) (hs : s.size < 9223372036854775807) :
    Calls Tryz.prog 109 #[.string s] w fun e w' => e = .returned (.bool (isToken (byteL s))) ∧ Below w.heap.size w w' := by
  go_enter Tryz.func109, Tryz.ntmps109
  by_cases h : s = ⟨#[]⟩
  · subst h
    go_wp2
    go_ret
    exact ⟨rfl, Below.refl _ _⟩
  · have hn : ¬ s.toList = [] := fun e => h (toList_nil.1 e)
    have HN := kd (fun e => h (byteL_nil.1 e))
    clear h
    go_wp2_with fail
    refine (tokend_any s 0 w (by omega) hs).mono ?_
    rintro e w' ⟨rfl, hb⟩
    have HB := kd hb; clear hb
    have HL := kd (byteL_len s)
    go_wp2_with fail
    go_ret
    refine ⟨?_, HB.out⟩
    have hN := HN.out
    have hL := HL.out
    clear HN HL HB
    refine ret_bool ?_
    rw [show clip 0 s.size = 0 from by simp [clip]]
    unfold isToken
    rw [hL, show (byteL s).isEmpty = false from by cases hx : byteL s with
      | nil => exact (hN hx).elim
      | cons _ _ => rfl]
    simp only [Bool.not_false, Bool.true_and]
    rw [Bool.eq_iff_iff]
    simp [hn]
    try omega

def Row (w : World) (b : Nat) (T : TypeId) (vs : List Value) : Prop := w.heap[b]? = some (.cells vs.toArray T (0, 0))
section
variable {w w1 : World} {b : Nat} {T : TypeId} {vs : List Value}
theorem Row.lt (h : Row w b T vs) : b < w.heap.size := by
  rcases Nat.lt_or_ge b w.heap.size with h1 | h1
  · exact h1
  · unfold Row at h; rw [Array.getElem?_eq_none h1] at h; cases h
theorem Row.cell (h : Row w b T vs) (i : Nat) : w.cell? ⟨b, i, none⟩ = vs[i]? := by
  rw [cell_of_row w b i _ _ (0, 0) h]; simp
theorem Row.frozen (h : Row w b T vs) (i : Nat) : w.frozen? ⟨b, i, none⟩ = false := by unfold Row at h; simp [World.frozen?, h]
theorem Row.of (h : Row w b T vs) (he : w1.heap[b]? = w.heap[b]?) : Row w1 b T vs := he.trans h
theorem Row.below (h : Row w b T vs) (hb : Below w.heap.size w w1) : Row w1 b T vs := h.of (hb.block b h.lt)
theorem Row.alloc (h : Row w b T vs) (o : Obj) : Row (w.alloc o) b T vs := h.below ((Below.refl _ _).alloc (Nat.le_refl _) o)
theorem Row.drew (h : Row w b T vs) : Row w.drew b T vs := h
theorem Row.drewN (h : Row w b T vs) (n : Nat) : Row (w.drewN n) b T vs := h
theorem Row.set (h : Row w b T vs) (i : Nat) (u : Value) : Row (w.setCell ⟨b, i, none⟩ u) b T (vs.set i u) := by
  unfold Row at h ⊢
  simp [World.setCell, Array.getElem?_modify, h]
theorem Row.setOther (h : Row w b T vs) {p i : Nat} (hp : p ≠ b) (u : Value) : Row (w.setCell ⟨p, i, none⟩ u) b T vs := h.of (Below.heap_setCell w _ u b (Ne.symm hp))
theorem Row.new (w : World) (T : TypeId) (vs : List Value) : Row (w.alloc (.cells vs.toArray T)) w.heap.size T vs := heap_alloc_new w _
end
def U8 (l : List Int) : List Value := l.map (Value.int .u8)
theorem U8_get {l : List Int} {i : Nat} {x : Int} (h : l[i]? = some x) : (U8 l)[i]? = some (.int .u8 x) := by simp [U8, h]
theorem Row.there {w : World} {b : Nat} {T : TypeId} {vs : List Value} (h : Row w b T vs) : w.there b 0 vs.length := fun j hj => by
  rw [Nat.zero_add, h.cell j, List.getElem?_eq_getElem hj]
  exact ⟨rfl, h.frozen j⟩
theorem Row.range {w : World} {b : Nat} {T : TypeId} {vs : List Value} (h : Row w b T vs) : w.rangeAt b 0 vs := fun j v hv => by
  rw [Nat.zero_add, h.cell j, hv]
theorem Row.setCells {b : Nat} {T : TypeId} : ∀ (us old pre post : List Value) (w : World), Row w b T (pre ++ old ++ post) → old.length = us.length → Row (w.setCells b pre.length us) b T (pre ++ us ++ post)
  | [], old, pre, post, w, h, he => by
    obtain rfl : old = [] := List.eq_nil_of_length_eq_zero he
    exact h
  | u :: us, [], pre, post, w, h, he => by cases he
  | u :: us, o :: old, pre, post, w, h, he => by
    have h1 := h.set pre.length u
    have e : (pre ++ o :: old ++ post).set pre.length u = (pre ++ [u]) ++ old ++ post := by simp [List.set_append]
    rw [e] at h1
    have h2 := Row.setCells us old (pre ++ [u]) post _ h1 (by simpa using he)
    rw [World.setCells]
    simpa using h2
theorem Row.setAll {w : World} {b : Nat} {T : TypeId} {vs : List Value} (h : Row w b T vs) (us : List Value) (he : vs.length = us.length) : Row (w.setCells b 0 us) b T us := by
  have h2 := Row.setCells us vs [] [] w (by simpa using h) he
  simpa using h2
theorem below_setCells {N b : Nat} {w : World} (hb : N ≤ b) : ∀ (us : List Value) (o : Nat) (w1 : World), Below N w w1 → Below N w (w1.setCells b o us)
  | [], _, _, h => h
  | u :: us, o, w1, h => below_setCells hb us (o + 1) _ (h.setCell (by exact hb) u)
def Bs (w : World) (B : Nat) (A : Option Addr) (xs : List Int) : Prop := 0 < xs.length → ∃ ad, A = some ad ∧ ad.block < B ∧ ∀ j x, xs[j]? = some x → w.cell? (ad.add j) = some (.int .u8 x)
theorem add_block (a : Addr) (n : Nat) : (a.add n).block = a.block := by unfold Addr.add; split <;> rfl
theorem add_add (a : Addr) (i j : Nat) : (a.add i).add j = a.add (i + j) := by
  unfold Addr.add
  by_cases hi : i = 0 <;> by_cases hj : j = 0 <;> simp [hi, hj, Nat.add_assoc]
section
variable {w w' : World} {B : Nat} {A : Option Addr} {xs : List Int}
theorem Bs.nil : Bs w B A [] := fun h => absurd h (by simp)
theorem Bs.keep (h : Bs w B A xs) (hk : ∀ p : Addr, p.block < B → w'.cell? p = w.cell? p) : Bs w' B A xs := fun hn => by
  obtain ⟨ad, e, hb, hc⟩ := h hn
  exact ⟨ad, e, hb, fun j u hu => (hk _ (by rw [add_block]; exact hb)).trans (hc j u hu)⟩
theorem Bs.below (h : Bs w B A xs) (hb : Below B w w') : Bs w' B A xs := h.keep fun _ hp => hb.cell hp
theorem Bs.up (h : Bs w B A xs) {B' : Nat} (hB : B ≤ B') : Bs w B' A xs := fun hn => by
  obtain ⟨ad, e, hb, hc⟩ := h hn
  exact ⟨ad, e, Nat.lt_of_lt_of_le hb hB, hc⟩
end
theorem wpList_value {P : Program} {ops : Array Oper} {rest : List Oper} {op : Oper} {a : Act} {w : World} {Q : Exit → Act → World → Prop} (hgd : op.guard = none) (v : Value) (w' : World)
    (hrun : (execOp a.eval op).run P w = .ok (.value v) w') (h : wpList P ops Q rest (a.put op.dst v) w') : wpList P ops Q (op :: rest) a w :=
  wpList_plain hgd fun _ hK => by
    unfold Oper.wp
    simp only [hrun]
    exact hK _ _ h
theorem exec_alloc {P : Program} {ρ : Operand → Value} {op : Oper} {ty : TypeId} {cs : List Value} {w : World} (ho : op.op = .alloc ty) (hz : (P.info? ty).bind (·.zero) = some (.agg cs.toArray)) :
    (execOp ρ op).run P w = .ok (.value (.pointer (some ⟨w.heap.size, 0, none⟩))) (w.alloc (.cells cs.toArray ty)) := by
  cases hq : P.info? ty with
  | none => simp [hq] at hz
  | some i =>
    have hz' : i.zero = some (.agg cs.toArray) := by simpa [hq] using hz
    unfold execOp
    simp [ho, Instr.alloc, zeroValue, typeInfo, hq, hz', newVar, Value.cells]
    rfl
theorem info5z : (Tryz.prog.info? 5).map (fun i => (i.size, i.zero, i.bytes)) = some (1, some (.int .u8 0), 1) := by kernel_rfl
theorem made_U8 (n : Nat) : madeCells #[.int .u8 0] n = (U8 (List.replicate n 0)).toArray := by
  apply Array.ext
  · simp [madeCells, U8]
  · intro i h1 h2
    simp [madeCells, U8, Nat.mod_one]
theorem make22 (w : World) (l c : Nat) (hlc : l ≤ c) (hc : c ≤ 16777216) : (Instr.makeSlice 69 (.int .i64 l) (.int .i64 c)).run Tryz.prog w = .ok (.slice (some ⟨w.heap.size, 0, none⟩) l c) (w.alloc (.cells (U8 (List.replicate c 0)).toArray 5)) := by
  have h := info5z
  rw [Option.map_eq_some_iff] at h
  obtain ⟨i, hi, he⟩ := h
  injection he with h1 h2
  injection h2 with h2 h3
  have hr := run_make (P := Tryz.prog) w 69 5 i (.int .u8 0) Tryz.underlying69 hi h2 .i64 .i64 l c (by omega) (by omega) (by rw [h3]; omega) (by omega)
  rw [hr, h1, Nat.mul_one, Int.toNat_natCast, Int.toNat_natCast]
  rw [show (Value.int IntKind.u8 0).cells = #[.int .u8 0] from rfl, made_U8]
theorem exec_make {ρ : Operand → Value} {op : Oper} {x y : Operand} {l c : Nat} {w : World} (ho : op.op = .makeSlice 69 x y) (h1 : ρ x = .int .i64 (l : Nat)) (h2 : ρ y = .int .i64 (c : Nat)) (hlc : l ≤ c) (hc : c ≤ 16777216) :
    (execOp ρ op).run Tryz.prog w = .ok (.value (.slice (some ⟨w.heap.size, 0, none⟩) l c)) (w.alloc (.cells (U8 (List.replicate c 0)).toArray 5)) := by
  unfold execOp
  simp only [ho, h1, h2, Sem.run_bind, make22 w l c hlc hc, Result.andThen_ok, Sem.run_pure]
theorem i5all : ∃ i, Tryz.prog.info? 5 = some i ∧ i.zero = some (.int .u8 0) ∧ i.size = 1 ∧ i.bytes = 1 := by
  have h := info5z
  rw [Option.map_eq_some_iff] at h
  obtain ⟨i, hi, he⟩ := h
  injection he with h1 h2
  injection h2 with h2 h3
  exact ⟨i, hi, h2, h1, h3⟩
theorem grown_refl (w : World) (row : Option Nat) : w.grownBy w row := ⟨rfl, rfl, rfl, Nat.le_refl _, fun _ _ _ => rfl⟩
theorem wpList_append_bytes {w : World} {ops : Array Oper} {rest : List Oper} {o : Oper} {a : Act} {Q : Exit → Act → World → Prop} (hgd : o.guard = none) (s x : Operand)
    (ho : o.op = .call { callee := .builtin .append, args := #[s, x], argTypes := #[69, 69] }) (base : Nat) (v : Value) (n : Nat) (xs : List Int) (hs : a.eval s = v) (hown : w.ownsRow base 5 1 v n (U8 xs))
    (A : Option Addr) (m c : Nat) (ys : List Int) (hx : a.eval x = .slice A m c) (hB : Bs w w.heap.size A ys) (hm : ys.length = m) (hnil : A = none → m = 0 ∧ c = 0) (hbound : n + m ≤ 16777216) (hbase : base ≤ w.heap.size)
    (h : ∀ v' w', w'.ownsRow base 5 1 v' (n + m) (U8 (xs ++ ys)) → w.grownBy w' v.ownBlock → wpList Tryz.prog ops Q rest (a.put o.dst v') w') : wpList Tryz.prog ops Q (o :: rest) a w := by
  obtain ⟨i, hi, hz, hsz, hby⟩ := i5all
  cases A with
  | none =>
    obtain ⟨rfl, rfl⟩ := hnil rfl
    obtain rfl : ys = [] := List.eq_nil_of_length_eq_zero hm
    refine wpList_append_own_none hgd s x 69 ho base 5 i 1 Tryz.underlying69 hi v n (U8 xs) hs hown hx ?_
    refine h v w ?_ (grown_refl _ _)
    rw [List.append_nil]
    exact hown
  | some ad =>
    refine wpList_append_own w hgd s x 69 ho base 5 i (.int .u8 0) 1 1 Tryz.underlying69 hi hz hsz hby rfl (by decide) v n (U8 xs) hs hown ad m c (U8 ys) hx (by simp [U8, hm]) (fun j u hu => ?_) (fun u hu => ?_) (by unfold maxLen; omega) (by omega) hbase ?_
    · unfold U8 at hu
      rw [List.getElem?_map, Option.map_eq_some_iff] at hu
      obtain ⟨y, hy, rfl⟩ := hu
      have hj : j < ys.length := (List.getElem?_eq_some_iff.1 hy).1
      obtain ⟨ad', e, _, hc⟩ := hB (by omega)
      cases e
      exact hc j y hy
    · obtain ⟨y, _, rfl⟩ := List.mem_map.1 hu; rfl
    · intro v' w' h1 h2 _
      refine h v' w' ?_ h2
      unfold U8 at h1 ⊢
      rwa [← List.map_append] at h1
theorem conv_owned {w : World} {base : Nat} {v : Value} {n : Nat} {xs : List Int} (h : w.ownsRow base 5 1 v n (U8 xs)) : (convert 69 9 v).run Tryz.prog w = .ok (.string (strOfNums xs)) w := by
  have hl : xs.length = n := by have := h.1; simpa [U8] using this
  rcases h.2 with ⟨rfl, rfl⟩ | ⟨g, cap, cur, rfl, hb, hg, hc, _, hs, ht⟩
  · obtain rfl : xs = [] := List.eq_nil_of_length_eq_zero hl
    exact run_convert_bytes_nil w 69 5 Tryz.underlying69 Tryz.underlying5 0 0 9 Tryz.underlying9
  · refine run_convert_bytes_arg (P := Tryz.prog) w 69 5 Tryz.underlying69 Tryz.underlying5 g 0 n cap xs hl (fun j hj => ?_) 9 Tryz.underlying9
    rw [Nat.zero_add, cell_of_row w g j cur 5 (0, 0) hg]
    have h2 : (cur.toList.take (n * 1))[j]? = (U8 xs)[j]? := by rw [ht]
    rw [List.getElem?_take, if_pos (by omega), U8_get (getD_some (by omega))] at h2
    simpa using h2
theorem own_block {w : World} {base : Nat} {e : TypeId} {size : Nat} {v : Value} {n : Nat} {xs : List Value} (h : w.ownsRow base e size v n xs) : ∀ k, v.ownBlock = some k → base ≤ k := fun k hk => by
  rcases h.2 with ⟨rfl, _⟩ | ⟨g, cap, cur, rfl, hb, _⟩
  · cases hk
  · simp [Value.ownBlock] at hk; omega
structure OX (w : World) (v : Value) (xs : List Int) (wr : World) : Prop where
  o : wr.ownsRow w.heap.size 5 1 v xs.length (U8 xs)
  bw : Below w.heap.size w wr
theorem OX.nil (w : World) : OX w (.slice none 0 0) [] w := ⟨World.ownsRow_nil _ _ _ _, Below.refl _ _⟩
theorem one_bs (wr : World) (x : Int) : Bs (wr.alloc (.cells #[.int .u8 x] 5)) (wr.alloc (.cells #[.int .u8 x] 5)).heap.size (some ⟨wr.heap.size, 0, none⟩) [x] := fun _ => ⟨_, rfl, by simp, fun j y hy => by
  rw [Addr.add_mid, Nat.zero_add]
  exact ((Row.new wr 5 (U8 [x])).cell j).trans (U8_get hy)⟩
theorem OX.push {w wr w1 : World} {v v1 : Value} {xs : List Int} {x : Int} (H : OX w v xs wr) (o1 : w1.ownsRow w.heap.size 5 1 v1 (xs.length + 1) (U8 (xs ++ [x]))) (hg : (wr.alloc (.cells #[.int .u8 x] 5)).grownBy w1 v.ownBlock) : OX w v1 (xs ++ [x]) w1 :=
  ⟨by simpa using o1, (H.bw.alloc H.bw.size _).grown hg (by have := H.bw.size; simp; omega) (own_block H.o)⟩
theorem no_nil {ad : Addr} {p : Prop} : some ad = none → p := fun h => by cases h
theorem OX.base {w wr : World} {v : Value} {xs : List Int} (H : OX w v xs wr) (o : Obj) : w.heap.size ≤ (wr.alloc o).heap.size := by have := H.bw.size; simp; omega
theorem wpList_push1 {w wr : World} {ops : Array Oper} {rest : List Oper} {o : Oper} {a : Act} {Q : Exit → Act → World → Prop} (hgd : o.guard = none) (s x : Operand)
    (ho : o.op = .call { callee := .builtin .append, args := #[s, x], argTypes := #[69, 69] }) (v : Value) (xs : List Int) (hs : a.eval s = v) (H : OX w v xs wr) (y : Int) (hx : a.eval x = .slice (some ⟨wr.heap.size, 0, none⟩) 1 1) (hb : xs.length + 1 ≤ 16777216)
    (h : ∀ v' w' L, Hid (L = xs ++ [y]) → L.length = xs.length + 1 → Hid (OX w v' L w') → wpList Tryz.prog ops Q rest (a.put o.dst v') w') : wpList Tryz.prog ops Q (o :: rest) a (wr.alloc (.cells #[.int .u8 y] 5)) :=
  wpList_append_bytes hgd s x ho w.heap.size v xs.length xs hs (H.o.alloc _) (some ⟨wr.heap.size, 0, none⟩) 1 1 [y] hx (one_bs _ _) rfl no_nil hb (H.base _) fun v' w' o1 g1 => h v' w' _ (kd rfl) (by simp) (kd (H.push o1 g1))
theorem OX.drewN {w wr : World} {v : Value} {xs : List Int} (H : OX w v xs wr) (q : Nat) : OX w v xs (wr.drewN q) := ⟨H.o, ⟨H.bw.os, H.bw.tape, H.bw.output, H.bw.size, H.bw.block⟩⟩

structure VX (T : TypeId) (sz : Nat) (w : World) (v : Value) (n : Nat) (cs : List Value) (wr : World) : Prop where
  o : wr.ownsRow w.heap.size T sz v n cs
  bw : Below w.heap.size w wr
theorem VX.nil (T : TypeId) (sz : Nat) (w : World) : VX T sz w (.slice none 0 0) 0 [] w := ⟨World.ownsRow_nil _ _ _ _, Below.refl _ _⟩
theorem VX.step {T : TypeId} {sz : Nat} {w wr w' : World} {v : Value} {n : Nat} {cs : List Value} (H : VX T sz w v n cs wr) (hb : Below wr.heap.size wr w') : VX T sz w v n cs w' := by
  refine ⟨⟨H.o.1, ?_⟩, H.bw.trans (hb.mono H.bw.size)⟩
  rcases H.o.2 with h0 | ⟨g, cap, cur, h1, h2, h3, h4⟩
  · exact .inl h0
  · exact .inr ⟨g, cap, cur, h1, h2, (hb.block g (lt_of_block h3)).trans h3, h4⟩
theorem VX.drewN {T : TypeId} {sz : Nat} {w wr : World} {v : Value} {n : Nat} {cs : List Value} (H : VX T sz w v n cs wr) (q : Nat) : VX T sz w v n cs (wr.drewN q) := H.step ⟨rfl, rfl, rfl, Nat.le_refl _, fun _ _ => rfl⟩
theorem wpList_pushT {T ST : TypeId} {sz bytes : Nat} {z : Value} {w wr : World} {ops : Array Oper} {rest : List Oper} {o : Oper} {a : Act} {Q : Exit → Act → World → Prop} (hgd : o.guard = none) (s x : Operand)
    (ho : o.op = .call { callee := .builtin .append, args := #[s, x], argTypes := #[ST, ST] }) (hT : Tryz.prog.underlying ST = some (.slice T)) (hinfo : ∃ i, Tryz.prog.info? T = some i ∧ i.zero = some z ∧ i.size = sz ∧ i.bytes = bytes) (hzs : z.cells.size = sz) (hpos : 0 < sz) (hby : bytes ≤ 1000)
    (v : Value) (n : Nat) (xs : List Value) (hs : a.eval s = v) (H : VX T sz w v n xs wr) (cs : List Value) (hcs : cs.length = sz) (h1 : ∀ u ∈ cs, u.oneCell' = true) (hx : a.eval x = .slice (some ⟨wr.heap.size, 0, none⟩) 1 1) (hb : n + 1 ≤ 16777216)
    (h : ∀ v' w', Hid (VX T sz w v' (n + 1) (xs ++ cs) w') → wpList Tryz.prog ops Q rest (a.put o.dst v') w') : wpList Tryz.prog ops Q (o :: rest) a (wr.alloc (.cells cs.toArray T)) := by
  obtain ⟨i, hi, hz, hsz, hbt⟩ := hinfo
  have hbase : w.heap.size ≤ (wr.alloc (.cells cs.toArray T)).heap.size := by have := H.bw.size; simp; omega
  refine wpList_append_own _ hgd s x ST ho w.heap.size T i z sz bytes hT hi hz hsz hbt hzs hpos v n xs hs (H.o.alloc _) ⟨wr.heap.size, 0, none⟩ 1 1 cs hx (by rw [Nat.one_mul]; exact hcs) (fun j u hu => ?_) h1 (by unfold maxLen; omega) ?_ hbase ?_
  · rw [Addr.add_mid, Nat.zero_add]
    exact ((Row.new wr T cs).cell j).trans hu
  · have : (n + 1) * bytes ≤ 16777216 * 1000 := Nat.mul_le_mul hb hby
    omega
  · intro v' w' h2 h3 _
    refine h v' w' (kd ⟨h2, (H.bw.alloc H.bw.size _).grown h3 hbase (own_block H.o)⟩)
theorem infoS : ∃ i, Tryz.prog.info? 9 = some i ∧ i.zero = some (.string ⟨#[]⟩) ∧ i.size = 1 ∧ i.bytes = 16 := by
  have h : (Tryz.prog.info? 9).map (fun i => (i.size, i.zero, i.bytes)) = some (1, some (.string ⟨#[]⟩), 16) := by kernel_rfl
  rw [Option.map_eq_some_iff] at h
  obtain ⟨i, hi, he⟩ := h
  injection he with h1 h2
  injection h2 with h2 h3
  exact ⟨i, hi, h2, h1, h3⟩
abbrev TX (w : World) (v : Value) (zs : List ByteArray) (wr : World) : Prop := VX 9 1 w v zs.length (zs.map Value.string) wr
theorem wpList_pushS {w wr : World} {ops : Array Oper} {rest : List Oper} {o : Oper} {a : Act} {Q : Exit → Act → World → Prop} (hgd : o.guard = none) (s x : Operand)
    (ho : o.op = .call { callee := .builtin .append, args := #[s, x], argTypes := #[75, 75] }) (v : Value) (ps : List ByteArray) (hs : a.eval s = v) (H : TX w v ps wr) (p : ByteArray) (hx : a.eval x = .slice (some ⟨wr.heap.size, 0, none⟩) 1 1) (hb : ps.length + 1 ≤ 16777216)
    (h : ∀ v' w' L, Hid (L = ps ++ [p]) → L.length = ps.length + 1 → Hid (TX w v' L w') → wpList Tryz.prog ops Q rest (a.put o.dst v') w') : wpList Tryz.prog ops Q (o :: rest) a (wr.alloc (.cells #[.string p] 9)) :=
  wpList_pushT hgd s x ho Tryz.underlying75 infoS rfl (by omega) (by omega) v ps.length (ps.map Value.string) hs H [.string p] rfl (fun u hu => by
    simp at hu
    rcases hu with rfl; rfl) hx hb fun v' w' h1 => h v' w' (ps ++ [p]) (kd rfl) (by simp) (kd (by
      have := h1.out
      unfold TX
      rw [List.map_append, List.length_append]
      exact this))
structure Prm where
  n : List Int
  v : List Int
  h : Bool
  deriving DecidableEq
def prmC (p : Prm) : List Value := [.string (strOfNums p.n), .string (strOfNums p.v), .bool p.h]
def prms (ps : List Prm) : List Value := ps.flatMap prmC
abbrev RX (w : World) (v : Value) (ps : List Prm) (wr : World) : Prop := VX 56 3 w v ps.length (prms ps) wr
theorem prms_len (ps : List Prm) : (prms ps).length = ps.length * 3 := by
  induction ps with
  | nil => rfl
  | cons p ps ih => rw [show prms (p :: ps) = prmC p ++ prms ps from rfl, List.length_append, ih]; simp [prmC]; omega
theorem flat_at {α : Type} (f : α → List Value) (sz : Nat) (hf : ∀ x, (f x).length = sz) : ∀ (l : List α) (k j : Nat) (x : α), l[k]? = some x → j < sz → (l.flatMap f)[k * sz + j]? = (f x)[j]?
  | [], k, j, x, h, _ => by cases h
  | y :: l, 0, j, x, h, hj => by
    cases h
    rw [List.flatMap_cons, Nat.zero_mul, Nat.zero_add, List.getElem?_append_left (by rw [hf]; exact hj)]
  | y :: l, k + 1, j, x, h, hj => by
    rw [List.flatMap_cons, List.getElem?_append_right (by rw [hf, Nat.succ_mul]; omega), hf, show (k + 1) * sz + j - sz = k * sz + j by rw [Nat.succ_mul]; omega]
    exact flat_at f sz hf l k j x h hj
theorem VX.form {T : TypeId} {sz : Nat} {w wr : World} {v : Value} {n : Nat} {cs : List Value} (H : VX T sz w v n cs wr) : (v = .slice none 0 0 ∧ n = 0 ∧ cs = []) ∨ ∃ g cap, v = .slice (some ⟨g, 0, none⟩) n cap ∧ n ≤ cap ∧ w.heap.size ≤ g ∧ g < wr.heap.size ∧ ∀ (j : Nat) u, cs[j]? = some u → wr.cell? ⟨g, j, none⟩ = some u := by
  have hl := H.o.1
  rcases H.o.2 with ⟨rfl, rfl⟩ | ⟨g, cap, cur, rfl, hb, hg, hc, _, hs, ht⟩
  · exact .inl ⟨rfl, rfl, List.eq_nil_of_length_eq_zero (by simpa using hl)⟩
  · refine .inr ⟨g, cap, rfl, hc, hb, lt_of_block hg, fun j u hx => ?_⟩
    rw [cell_of_row wr g j cur T (0, 0) hg]
    have hj : j < cs.length := (List.getElem?_eq_some_iff.1 hx).1
    have h2 : (cur.toList.take (n * sz))[j]? = cs[j]? := by rw [ht]
    rw [List.getElem?_take, if_pos (by omega), hx] at h2
    simpa using h2

theorem cutL_sub (sep : Int) : ∀ xs : List Int, (∀ p ∈ cutL sep xs, p.Sublist xs) ∧ (cutL sep xs).length ≤ xs.length + 1
  | [] => ⟨fun p hp => by unfold cutL at hp; rw [List.mem_singleton] at hp; subst hp; exact List.Sublist.refl _, by unfold cutL; simp⟩
  | c :: r => by
    have ih := cutL_sub sep r
    by_cases h : c = sep
    · subst h
      rw [cutL_hit]
      refine ⟨fun p hp => ?_, by simp; exact ih.2⟩
      rcases List.mem_cons.1 hp with rfl | hp
      · exact List.nil_sublist _
      · exact (ih.1 p hp).cons _
    · rw [cutL_no _ _ _ h]
      cases hc : cutL sep r with
      | nil =>
        refine ⟨fun p hp => ?_, by simp [glue]⟩
        unfold glue at hp
        rw [List.mem_singleton] at hp
        subst hp
        exact (List.nil_sublist r).cons_cons c
      | cons q qs =>
        rw [hc] at ih
        refine ⟨fun p hp => ?_, by have := ih.2; simp [glue] at this ⊢; omega⟩
        unfold glue at hp
        rcases List.mem_cons.1 hp with rfl | hp
        · exact (ih.1 q (by simp)).cons_cons c
        · exact (ih.1 p (by simp [hp])).cons _

def nq (nm xs : List Int) : List Int := nm ++ [61] ++ quoteL xs
theorem joinL_len (sep : List Int) (m : Nat) : ∀ l : List (List Int), (∀ p ∈ l, p.length ≤ m) → (joinL sep l).length ≤ l.length * (m + sep.length)
  | [], _ => by rw [joinL_nil]; simp
  | [x], h => by rw [joinL_one]; have := h x (by simp); simp; omega
  | x :: y :: r, h => by
    have ih := joinL_len sep m (y :: r) (fun p hp => h p (by simp [hp]))
    have := h x (by simp)
    rw [joinL_cons, List.length_append, List.length_append, List.length_cons, Nat.succ_mul]
    omega
end Go.Proofs.YthfonniieaiocaaGreatDoor
