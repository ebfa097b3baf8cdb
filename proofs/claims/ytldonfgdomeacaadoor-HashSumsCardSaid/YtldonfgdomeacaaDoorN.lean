/- '==' on arrays and states: a value equals itself. -/
import Derived.Test.YtldonfgdomeacaaDoorD
import Derived.DeepKeys
namespace Go.Proofs.YtldonfgdomeacaaDoor
open Go.RowKit

theorem mapM_isSome {α β : Type} {f : α → Option β} : ∀ (l : List α), (∀ a ∈ l, (f a).isSome = true) → (l.mapM f).isSome = true
  | [], _ => rfl
  | a :: l, h => by
    obtain ⟨b, hb⟩ := Option.isSome_iff_exists.1 (h a (by simp))
    obtain ⟨r, hr⟩ := Option.isSome_iff_exists.1 (mapM_isSome l (fun x hx => h x (by simp [hx])))
    simp [List.mapM_cons, hb, hr]
section
variable {P : Program}
theorem keyLits_ints {t e : TypeId} {n : Nat} {k : IntKind} (d : Nat) (ht : P.underlying t = some (.array n e)) (he : P.underlying e = some (.int k)) (hce : P.cellsOf e = 1) (hct : P.cellsOf t = n) (zs : List Int) (hl : zs.length = n) (hw : ∀ z ∈ zs, (Lit.int k z).wf = true) :
    (P.keyLits (d + 2) t (zs.map (Value.int k))).isSome = true := by
  unfold Program.keyLits
  simp only [ht]
  rw [if_pos (by rw [hct, List.length_map, hl]), Option.isSome_map]
  refine mapM_isSome _ fun i hi => ?_
  have hi' : i < zs.length := by rw [hl]; simpa using hi
  rw [hce, Nat.mul_one, ← List.map_drop, ← List.map_take, List.drop_eq_getElem_cons hi', List.take_succ_cons, List.take_zero]
  unfold Program.keyLits
  simp only [he, List.map_cons, List.map_nil]
  rw [if_pos ⟨trivial, hw _ (List.getElem_mem hi')⟩]
  rfl
theorem eq_self {t : TypeId} (m : Nat) (hm : m ≤ 10000) (hk : P.keyTypeAt m t = true) (v : Value) (D : Nat) (hf : v.formed P t = true) (h : (P.keyLits D t v.cells.toList).isSome = true) (w : World) : (Op.equalIn 10000 t v v).run P w = .ok true w := by
  obtain ⟨l, hl⟩ := Option.isSome_iff_exists.1 h
  obtain ⟨r, hr, hi⟩ := run_equalIn_deep (10000 - m) m t hk w D D v v l l hf hf hl hl
  rw [show 10000 - m + m = 10000 by omega, hi.2 rfl] at hr
  exact hr
end
theorem wf_u8 {z : Int} (h : 0 ≤ z ∧ z < 256) : (Lit.int .u8 z).wf = true := by simp [Lit.wf, IntKind.min, IntKind.max, IntKind.signed, IntKind.bits]; omega
theorem wf_u32 {z : Int} (h : 0 ≤ z ∧ z < 4294967296) : (Lit.int .u32 z).wf = true := by simp [Lit.wf, IntKind.min, IntKind.max, IntKind.signed, IntKind.bits]; omega
theorem wf_u64 {z : Int} (h : 0 ≤ z ∧ z < 18446744073709551616) : (Lit.int .u64 z).wf = true := by simp [Lit.wf, IntKind.min, IntKind.max, IntKind.signed, IntKind.bits]; omega
theorem k5 : Tryd.prog.cellsOf 5 = 1 := by kernel_rfl
theorem k27 : Tryd.prog.cellsOf 27 = 1 := by kernel_rfl
theorem k24 : Tryd.prog.cellsOf 24 = 32 := by kernel_rfl
theorem k28 : Tryd.prog.cellsOf 28 = 8 := by kernel_rfl
theorem k29 : Tryd.prog.cellsOf 29 = 1 := by kernel_rfl
theorem k30 : Tryd.prog.cellsOf 30 = 64 := by kernel_rfl
theorem k32 : Tryd.prog.cellsOf 32 = 73 := by kernel_rfl
theorem eq24 (l : List Int) (hl : l.length = 32) (hb : By l) (w : World) : (Op.equalIn 10000 24 (.agg (U8 l).toArray) (.agg (U8 l).toArray)).run Tryd.prog w = .ok true w :=
  eq_self 5 (by decide) (by kernel_rfl) _ 2 (by unfold Value.formed; simp only [Tryd.underlying24, k24]; simp [U8, hl]) (keyLits_ints 0 Tryd.underlying24 Tryd.underlying5 k5 k24 l hl (fun z hz => wf_u8 (hb z hz))) w
theorem eq32 (s : HS) (h : HSR s) (w : World) : (Op.equalIn 10000 32 (.agg (hsL s).toArray) (.agg (hsL s).toArray)).run Tryd.prog w = .ok true w := by
  obtain ⟨h1, h2, h3, h4⟩ := h
  have hlen : (hsL s).length = 73 := hsL_len h3
  refine eq_self 5 (by decide) (by kernel_rfl) _ 3 ?_ ?_ w
  · unfold Value.formed; simp only [Tryd.underlying32, k32]; simp [hlen]
  · unfold Program.keyLits
    simp only [Tryd.underlying32]
    rw [if_pos ⟨by rw [k32]; exact hlen, by simp⟩, Option.isSome_map]
    refine mapM_isSome _ fun f hf => ?_
    have e0 : (Value.agg (hsL s).toArray).cells.toList = hsL s := rfl
    rw [e0]
    simp only [List.mem_cons, List.not_mem_nil, or_false] at hf
    have ha : ((hsL s).drop 0).take 8 = (stL s.st).map (Value.int .u32) := rfl
    have hb : ((hsL s).drop 8).take 1 = [Value.int .u64 s.n] := rfl
    have hc : ((hsL s).drop 9).take 64 = s.tail.map (Value.int .u8) := by
      rw [show (hsL s).drop 9 = U8 s.tail from rfl, List.take_of_length_le (by simp [U8, h3])]; rfl
    rcases hf with rfl | rfl | rfl
    · rw [k28, ha]
      refine keyLits_ints 0 Tryd.underlying28 Tryd.underlying27 k27 k28 _ rfl (fun z hz => wf_u32 ?_)
      simp only [stL, List.mem_cons, List.not_mem_nil, or_false] at hz
      obtain ⟨p0, p1, p2, p3, p4, p5, p6, p7⟩ := h1
      rcases hz with rfl | rfl | rfl | rfl | rfl | rfl | rfl | rfl <;> assumption
    · rw [k29, hb]
      unfold Program.keyLits
      simp only [Tryd.underlying29]
      rw [if_pos ⟨trivial, wf_u64 h2⟩]; rfl
    · rw [k30, hc]
      exact keyLits_ints 0 Tryd.underlying30 Tryd.underlying5 k5 k30 _ h3 (fun z hz => wf_u8 (h4 z hz))
end Go.Proofs.YtldonfgdomeacaaDoor
