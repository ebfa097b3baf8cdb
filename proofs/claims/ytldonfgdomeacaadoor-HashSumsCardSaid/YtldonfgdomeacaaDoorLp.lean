/- The law HashSplits. -/
import Derived.Test.YtldonfgdomeacaaDoorK
import Derived.Test.YtldonfgdomeacaaDoorM
import Derived.Test.YtldonfgdomeacaaDoorN
import Derived.Test.YtldonfgdomeacaaDoorQ
import Derived.Laws.AppendOwnNone
namespace Go.Proofs.YtldonfgdomeacaaDoor
open Go.RowKit

theorem i5all : ∃ i, Tryd.prog.info? 5 = some i ∧ i.zero = some (.int .u8 0) ∧ i.size = 1 ∧ i.bytes = 1 := by
  have h := info5z
  rw [Option.map_eq_some_iff] at h
  obtain ⟨i, hi, he⟩ := h
  injection he with h1 h2
  injection h2 with h2 h3
  exact ⟨i, hi, h2, h1, h3⟩
theorem grown_refl (w : World) (row : Option Nat) : w.grownBy w row := ⟨rfl, rfl, rfl, Nat.le_refl _, fun _ _ _ => rfl⟩
/-- append(own, bytes..): whatever the bytes' slice. -/
theorem wpList_append_bytes {w : World} {ops : Array Oper} {rest : List Oper} {o : Oper} {a : Act} {Q : Exit → Act → World → Prop} (hgd : o.guard = none) (s x : Operand)
    (ho : o.op = .call { callee := .builtin .append, args := #[s, x], argTypes := #[22, 22] }) (base : Nat) (v : Value) (n : Nat) (xs : List Int) (hs : a.eval s = v) (hown : w.ownsRow base 5 1 v n (U8 xs))
    (A : Option Addr) (m c : Nat) (ys : List Int) (hx : a.eval x = .slice A m c) (hB : Bs w w.heap.size A ys) (hm : ys.length = m) (hnil : A = none → m = 0 ∧ c = 0) (hbound : n + m ≤ 1000000) (hbase : base ≤ w.heap.size)
    (h : ∀ v' w', w'.ownsRow base 5 1 v' (n + m) (U8 (xs ++ ys)) → w.grownBy w' v.ownBlock → wpList Tryd.prog ops Q rest (a.put o.dst v') w') : wpList Tryd.prog ops Q (o :: rest) a w := by
  obtain ⟨i, hi, hz, hsz, hby⟩ := i5all
  cases A with
  | none =>
    obtain ⟨rfl, rfl⟩ := hnil rfl
    obtain rfl : ys = [] := List.eq_nil_of_length_eq_zero hm
    refine wpList_append_own_none hgd s x 22 ho base 5 i 1 Tryd.underlying22 hi v n (U8 xs) hs hown hx ?_
    refine h v w ?_ (grown_refl _ _)
    rw [List.append_nil]
    exact hown
  | some ad =>
    refine wpList_append_own w hgd s x 22 ho base 5 i (.int .u8 0) 1 1 Tryd.underlying22 hi hz hsz hby rfl (by decide) v n (U8 xs) hs hown ad m c (U8 ys) hx (by simp [U8, hm]) (fun j u hu => ?_) (fun u hu => ?_) (by unfold maxLen; omega) (by omega) hbase ?_
    · unfold U8 at hu
      rw [List.getElem?_map, Option.map_eq_some_iff] at hu
      obtain ⟨y, hy, rfl⟩ := hu
      have hj : j < ys.length := (List.getElem?_eq_some_iff.1 hy).1
      obtain ⟨ad', e, _, hc⟩ := hB (by omega)
      cases e
      exact hc j y hy
    · obtain ⟨y, _, rfl⟩ := List.mem_map.1 hu; rfl
    · intro v' w' h1 h2 _
      refine h v' w' ?_ h2
      unfold U8 at h1 ⊢
      rwa [← List.map_append] at h1
/-- What an owned slice of bytes is good for. -/
theorem owns_slice {w : World} {base : Nat} {v : Value} {n : Nat} {xs : List Int} (h : w.ownsRow base 5 1 v n (U8 xs)) : ∃ A c, v = .slice A n c ∧ n ≤ c ∧ xs.length = n ∧ Bs w w.heap.size A xs := by
  have hl : xs.length = n := by have := h.1; simpa [U8] using this
  rcases h.2 with ⟨rfl, rfl⟩ | ⟨g, cap, cur, rfl, hb, hg, hc, _, hs, ht⟩
  · exact ⟨none, 0, rfl, Nat.le_refl _, hl, fun h => absurd h (by omega)⟩
  · refine ⟨some ⟨g, 0, none⟩, cap, rfl, hc, hl, fun h0 => ⟨_, rfl, lt_of_block hg, fun j x hx => ?_⟩⟩
    rw [Addr.add_mid, Nat.zero_add, cell_of_row w g j cur 5 (0, 0) hg]
    have hj : j < xs.length := (List.getElem?_eq_some_iff.1 hx).1
    have h2 : (cur.toList.take (n * 1))[j]? = (U8 xs)[j]? := by rw [ht]
    rw [List.getElem?_take, if_pos (by omega), U8_get hx] at h2
    simpa using h2
theorem feed_row (s : HS) (A : Option Addr) (m c : Nat) (bs : List Int) (w : World) (hs : HSR s) (hb : By bs) (hA : Bs w w.heap.size A bs) (hm : bs.length = m) (hc : m ≤ c) (hM : m ≤ 8192) (hK : KC w) :
    Calls Tryd.prog 15 #[.agg (hsL s).toArray, .slice A m c] w fun e w' => e = .returned (.agg (hsL (feedH s bs)).toArray) ∧ Below w.heap.size w w' := feed_any s A m c bs w hs hb hA hm hc hM hK
theorem finish_row (s : HS) (w : World) (hs : HSR s) (hK : KC w) : Calls Tryd.prog 14 #[.agg (hsL s).toArray] w fun e w' => e = .returned (.agg (U8 (finH s)).toArray) ∧ Below w.heap.size w w' := finish_any s w hs hK
end Go.Proofs.YtldonfgdomeacaaDoor
