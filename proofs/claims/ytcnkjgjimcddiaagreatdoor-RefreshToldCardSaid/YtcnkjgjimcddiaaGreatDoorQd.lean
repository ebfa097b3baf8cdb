/- Drawn regions: a head that is quiet in the class of later worlds, a tail in the text's order. -/
import Derived.Test.YtcnkjgjimcddiaaGreatDoorQa
import Derived.Deep.QuietTactic
import Derived.BigQuiet
namespace Go.Proofs.YtcnkjgjimcddiaaGreatDoor
open Go.RowKit

/-- A later world: all that was there is as it was. -/
structure BW (w0 : World) where
  w : World
  h : Below w0.heap.size w0 w
instance (w0 : World) : Nonempty (BW w0) := ⟨⟨w0, Below.refl _ _⟩⟩
section
variable {P : Program}
theorem region_bw {id : Nat} {Q : Exit → Act → World → Prop} {a : Act} {w : World} {l : List Oper} (hm : P.follows .mixedOrders = true) (hB : Region.lexB .any l.toArray = true)
    (h : wpQuiet P l.toArray (fun w' => ∃ x : BW w, w' = x.w) (fun a' => ∀ w', (∃ x : BW w, w' = x.w) → Q .normal a' w') l a) : (Code.region id l.toArray true).wp P Q a w :=
  wp_region_quiet (C := fun w' => ∃ x : BW w, w' = x.w) hm hB ⟨⟨w.drew, (Below.refl _ _).drew⟩, rfl⟩ (by simpa using h)
theorem calls_bw {f : FuncId} {args : Array Value} {w : World} {x : BW w} {v : Value} (h : Calls P f args x.w fun e w' => e = .returned v ∧ Below x.w.heap.size x.w w') :
    Calls P f args x.w fun e w'' => e = .returned v ∧ ∃ y : BW w, w'' = y.w :=
  h.mono fun _ w' ⟨he, hb⟩ => ⟨he, ⟨w', x.h.trans (hb.mono x.h.size)⟩, rfl⟩
/-- A load of a row that was there. -/
theorem quiet_load {o : Oper} {a : Act} {w : World} {K : Act → Prop} (ty : TypeId) (x : Operand) (ho : o.op = .load ty x) (b : Nat) (hx : a.eval x = .pointer (some ⟨b, 0, none⟩)) (cs : List Value) (T : TypeId) (d : TypeDesc) (hr : Row w b T cs)
    (hu : P.underlying ty = some d) (hd : d.isRow = true) (hi : (P.info? ty).map (·.size) = some cs.length) (h : K (a.put o.dst (.agg cs.toArray))) : o.quiet P a (fun w' => ∃ y : BW w, w' = y.w) K :=
  ⟨.agg cs.toArray, fun w' ⟨y, hy⟩ => by
    subst hy
    unfold Oper.quietAt execOp
    simp only [ho, hx, Instr.loadAt, Instr.sureAddr, Sem.run_bind, Sem.run_pure, Result.andThen_ok, run_loadVar_mid y.w b 0 ty cs d (hr.below y.h).range hu hd hi]
    exact ⟨rfl, rfl⟩, h⟩
end
theorem region_bwt {P : Program} {id : Nat} {Q : Exit → Act → World → Prop} {a : Act} {w : World} {l : List Oper} (n : Nat) (hm : P.follows .mixedOrders = true) (hB : Region.lexTailB .any l.toArray n = true)
    (h : wpQuiet P l.toArray (fun w' => ∃ x : BW w, w' = x.w) (fun a' => ∀ w', (∃ x : BW w, w' = x.w) → wpList P l.toArray Q (l.drop n) a' w') (l.take n) a) : (Code.region id l.toArray true).wp P Q a w :=
  region_quiet_tail n hm hB ⟨⟨w.drew, (Below.refl _ _).drew⟩, rfl⟩ h
theorem Row.later {w : World} {b : Nat} {T : TypeId} {vs : List Value} (h : Row w b T vs) (x : BW w) (i : Nat) : x.w.cell? ⟨b, i, none⟩ = vs[i]? := (h.below x.h).cell i
end Go.Proofs.YtcnkjgjimcddiaaGreatDoor
