/- Contracts of inviteclient's outputs and of the function that it returns; the law for an insertion as one step of a walk. -/
import Derived.Test.YtdooohanhekniaaE
namespace Go.Proofs.Ytdooohanhekniaa
open Go.RowKit

def RetFn (w : World) (l : List Out) (e : Ending) (w' : World) : Prop := ∃ f, e = .returned f ∧ FnOuts w' f l ∧ Below w.heap.size w w'

set_option maxHeartbeats 400000 in
theorem outputs_any (v : Value) (l : List Out) (w : World) (hv : Outs w 0 v l) (h0 : 0 < l.length) (h3 : l.length ≤ 3) : Calls Try.prog 36 #[v] w (RetFn w l) := by
  obtain ⟨h1, A, c, rfl, hc, h2⟩ := id hv
  have HV := Lib.hid hv; clear hv h1 hc h2
  have H0 := Lib.hid h0; have H3 := Lib.hid h3; clear h0 h3
  go_enter Try.func36, Try.ntmps36
  go_wp2
  go_ret
  exact ⟨_, rfl, ⟨w.heap.size, _, rfl, by simp, by simp, HV.out.alloc _, H0.out, H3.out⟩, (Below.refl _ _).alloc (Nat.le_refl _) _⟩

def RetOuts (w : World) (l : List Out) (e : Ending) (w' : World) : Prop := ∃ v, e = .returned v ∧ Outs w' w.heap.size v l ∧ Below w.heap.size w w'

theorem info40 : (Try.prog.info? 40).map (fun i => (i.zero, i.size, i.bytes)) = some (some (.agg #[.int .u8 0, .int .i64 0, .int .u8 0, .int .i64 0]), 4, 32) := by kernel_rfl

theorem osC_one (l : List Out) : ∀ u ∈ osC l, u.oneCell' = true := by
  intro u hu
  simp only [osC, List.mem_flatMap] at hu
  obtain ⟨x, _, hx⟩ := hu
  simp only [oC, List.mem_cons, List.not_mem_nil, or_false] at hx
  rcases hx with rfl | rfl | rfl | rfl <;> rfl

set_option maxHeartbeats 400000 in
theorem outFn_any (l : List Out) (w : World) (b : Nat) (v : Value) (hc : w.cell? ⟨b, 0, none⟩ = some v) (hv : Outs w 0 v l) (h0 : 0 < l.length) (h3 : l.length ≤ 3) : Calls Try.prog 37 #[.pointer (some ⟨b, 0, none⟩)] w (RetOuts w l) := by
  obtain ⟨i0, hi, hz0, hz1, hz2⟩ := info_parts info40
  obtain ⟨h1, A, c, rfl, hcap, h2⟩ := id hv
  obtain ⟨g, o, rfl, _, hlt, hcell⟩ := h2 h0
  have HC := Lib.hid hcell; have H1 := Lib.hid h1; have H0 := Lib.hid h0; have H3 := Lib.hid h3
  clear hv h2 hcell h1 h0 h3 hcap hlt
  go_enter Try.func37, Try.ntmps37
  go_wp2_with (at_builtin; refine wpList_append_own _ rfl _ _ 48 rfl w.heap.size 40 i0 _ 4 32 Try.underlying48 hi hz0 hz1 hz2 rfl (by decide) (.slice none 0 0) 0 [] rfl (World.ownsRow_nil w _ _ _) ⟨g, o, none⟩ l.length c (osC l) rfl H1.out ?c1 (osC_one l) ?c3 ?c4 (Nat.le_refl _) ?_)
  case c1 => intro j u hu; rw [show (⟨g, o, none⟩ : Addr).add j = ⟨g, o + j, none⟩ by unfold Addr.add; split <;> simp_all]; exact HC.out j u hu
  case c3 => have := H3.out; unfold maxLen; omega
  case c4 => have := H3.out; omega
  intro v' w1 hown hg _
  have ho := Lib.hid (Sl.of_own hown)
  have HG := Lib.hid hg
  clear hown hg
  go_wp2
  go_ret
  refine ⟨v', rfl, ?_, (Below.refl _ _).grown HG.out (Nat.le_refl _) (by simp [Value.ownBlock])⟩
  have := ho.out
  simpa [Outs] using this

section
variable {ops : Array Oper} {rest : List Oper} {o : Oper} {a : Act} {Q : Exit → Act → World → Prop}

theorem wpList_insert (w : World) (hg : o.guard = none) (m x v : Operand) (hop : o.op = Op.insert 69 m x v ∨ o.op = Op.mapUpdate 69 m x v) (r : Nat) (xs : List Row) (hm : a.eval m = .map (some r)) (h : TabIs w r xs) (row : Row)
    (hx : a.eval x = kV row.k.1 row.k.2.1 row.k.2.2.1 row.k.2.2.2) (f : Value) (hv : a.eval v = .agg #[.int .u8 row.m.st, .int .i64 row.m.wait, .int .i64 row.m.code, f]) (hf : FnOuts w f row.l) (hn : ∀ y ∈ xs, y.k ≠ row.k)
    (hK : ∀ w', TabIs w' r (xs ++ [row]) → w.grownBy w' (some r) → Kept w w' → wpList Try.prog ops Q rest (a.put o.dst undef) w') :
    wpList Try.prog ops Q (o :: rest) a w := by
  refine wpList_plain hg fun K' hK' => ?_
  obtain ⟨w', hrun, r1, r2, r3⟩ := h.insert row hn hf
  unfold Oper.wp
  rcases hop with hop | hop <;> (simp [execOp, hop, hm, hx, hv, hrun, Result.andThen]; exact hK' _ _ (hK w' r1 r2 r3))
end

end Go.Proofs.Ytdooohanhekniaa
