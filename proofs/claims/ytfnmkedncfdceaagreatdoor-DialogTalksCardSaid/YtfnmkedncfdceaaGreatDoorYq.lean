/- What the row of DialogTalks needs: a slice of bytes opened. -/
import Derived.Test.YtfnmkedncfdceaaGreatDoorJt
set_option linter.unusedVariables false
set_option linter.unusedSimpArgs false
namespace Go.Proofs.YtfnmkedncfdceaaGreatDoor
open Go.ChangeShapes Go.WideShapes Go.ChangeAt Go.RowKit

section
variable {H : Type} {enc : TypeId × Value → H} {W : World} {b0 : Nat} {v : Value} {d : DataW H} {p : List MemPlace}
def USL (W:World) (v:Value):Prop := ∃ (A:Option Addr) (n c:Nat),v = .slice A n c∧∀ j,j<n→∃ (a:Addr) (x:Nat),A=some a∧a.block<W.heap.size∧x≤255∧W.cell? (a.add j)=some (.int .u8 (x:Int))
theorem ygp {fuel:Nat} {base:Nat} {sp:Nat→Bool} {hd:Bool} {v:Value} {y:DataW H × List MemPlace} (h:DataW.trod enc Tryz.prog W base sp hd fuel 29 [v]=some y):USL W v:=by
 rcases open_ints Tryz.underlying29 Tryz.underlying5 (by kernel_rfl) h with ⟨h1,h2⟩|⟨a,len,cap,zs,h1,_,h3,_,h5,h6,h7,h8⟩
 · simp at h1
   subst h1;exact ⟨none,0,0,rfl,fun j hj=>absurd hj (by omega)⟩
 · simp at h1
   subst h1;refine ⟨some a,len,cap,rfl,fun j hj => ?_⟩
   have hl:j<zs.length:=by
    rw [h5]
    split<;>omega
   have hc:=h7 j hl
   have hm:zs.getD j 0∈zs:=by
    rw [List.getD_eq_getElem?_getD,List.getElem?_eq_getElem hl];exact List.getElem_mem _
   have hw:=h8 _ hm;clear hm;generalize zs.getD j 0=z at *;have e1:IntKind.u8.min=0:=rfl;have e2:IntKind.u8.max=255:=rfl;simp [Lit.wf] at hw;have hb:=block_lt_of_cell hc;rw [yfb] at hb;exact ⟨a,z.toNat,rfl,hb,by omega,by rw [hc,Int.toNat_of_nonneg (by omega)]⟩
set_option linter.constructorNameAsVariable false
set_option maxRecDepth 100000 in
theorem ygq (hv:Value.okWide Tryz.prog W .any b0 29 v) (h:DataW.Trod enc Tryz.prog W 0 (fun _=>true) true 29 v d p) :
  ∃ (A:Option Addr) (n c:Nat),v = .slice A n c∧∀ j,j<n→∃ (a:Addr) (x:Nat),A=some a∧a.block<W.heap.size∧x≤255∧W.cell? (a.add j)=some (.int .u8 (x:Int)):=by
 obtain ⟨A,n,c,rfl⟩:=okWide_slice Tryz.underlying29 hv;obtain ⟨fuel,hf⟩:=h;exact ygp hf
end
end Go.Proofs.YtfnmkedncfdceaaGreatDoor
