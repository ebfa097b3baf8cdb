/- A region that draws its order: one assertion for each operation; a variable of its own that is laid and stored into. And what stands behind it. -/
import Derived.Laws.CopyOwn
import Derived.Test.YtfnmkedncfdceaaGreatDoorEg
import Derived.Laws.StructEq
set_option linter.unusedVariables false
set_option linter.unusedSimpArgs false
namespace Go.Proofs.YtfnmkedncfdceaaGreatDoor
open Go.RowKit

section
variable {P : Program} {ops : Array Oper} {Q : Exit → Act → World → Prop}

def upd (L:Nat→Bool) (i:Nat):Nat→Bool:=fun j=>j == i || L j

def zzb (n:Nat) (L:Nat→Bool):Nat:=((List.range n).filter fun i => !L i).length

theorem zte {n:Nat} {L:Nat→Bool} (h:zzb n L=0):∀ i,i<n→L i=true:=by
 intro i hi;have:(List.range n).filter (fun i => !L i)=[]:=List.eq_nil_of_length_eq_zero h;have h2:=List.filter_eq_nil_iff.1 this i (List.mem_range.2 hi)
 simpa using h2

theorem zt6 {l:List Nat} {L:Nat→Bool} {i:Nat}:(l.filter fun j => !upd L i j).length≤(l.filter fun j => !L j).length:=by
 induction l with
 | nil=>simp
 | cons x l ih =>
   simp only [List.filter_cons,upd]
   by_cases hx:x == i
   · simp only [hx,Bool.true_or,Bool.not_true,Bool.false_eq_true,if_false]
     refine Nat.le_trans ih ?_
     split<;>simp
   · simp only [Bool.not_eq_true] at hx
     simp only [hx,Bool.false_or]
     split
     · exact Nat.succ_le_succ ih
     · exact ih

theorem zm3 {l:List Nat} {L:Nat→Bool} {i:Nat} (hi:i∈l) (hL:L i=false):(l.filter fun j => !upd L i j).length<(l.filter fun j => !L j).length:=by
 induction l with
 | nil=>cases hi
 | cons x l ih =>
   simp only [List.filter_cons,upd]
   by_cases hx:x=i
   · subst hx
     simp only [beq_self_eq_true,Bool.true_or,Bool.not_true,Bool.false_eq_true,if_false,hL,Bool.not_false,if_true,List.length_cons];exact Nat.lt_succ_of_le zt6
   · have hx':(x == i)=false:=by simp [hx]
     have hi':i∈l:=by
      rcases List.mem_cons.1 hi with h|h
      · exact absurd h.symm hx
      · exact h
     simp only [hx',Bool.false_or]
     split
     · exact Nat.succ_lt_succ (ih hi')
     · exact ih hi'

theorem zv7 {n:Nat} {L:Nat→Bool} {i:Nat} (hi:i<n) (hL:L i=false):zzb n (upd L i)<zzb n L:=
 zm3 (List.mem_range.2 hi) hL

theorem zj2 {listed:Array Bool} (hs:listed.size=ops.size) (i:Nat):i∈Region.ready .any ops listed ↔
  ∃ o,ops[i]? = some o∧listed.getD i false=false∧∀ e∈o.after,Region.binds .any e=true→listed.getD e.on false=true:=by
 simp only [Region.ready,List.mem_filter,List.mem_range,Bool.and_eq_true,Bool.not_eq_true']
 constructor
 · rintro ⟨hlt,h1,h2⟩
   have ho:ops[i]? = some ops[i]:=Array.getElem?_eq_getElem hlt;refine ⟨_,ho,?_,fun e he hb => ?_⟩
   · have hl:i<listed.size:=by omega
     simpa [Array.getD,hl] using h1
   · rw [ho] at h2
     simp only [Option.map_some,Option.getD_some] at h2;have h3:=Array.all_eq_true_iff_forall_mem.1 h2 e he
     simpa [hb] using h3
 · rintro ⟨o,ho,h1,h2⟩
   have hlt:i<ops.size:=(Array.getElem?_eq_some_iff.1 ho).1;refine ⟨hlt,?_,?_⟩
   · have hl:i<listed.size:=by omega
     simpa [Array.getD,hl] using h1
   · rw [ho]
     simp only [Option.map_some,Option.getD_some];refine Array.all_eq_true_iff_forall_mem.2 fun e he => ?_
     by_cases hb:Region.binds .any e=true
     · simp [h2 e he hb]
     · simp [hb]

theorem zrb {listed:Array Bool} {i:Nat} (hi:i<listed.size):(fun j=>(listed.setIfInBounds i true).getD j false)=upd (fun j=>listed.getD j false) i:=by
 funext j
 simp only [upd]
 by_cases h:j=i
 · subst h;simp [Array.getD,hi]
 · have hj:(j == i)=false:=by simp [h]
   rw [hj,Bool.false_or];simp only [Array.getD,Array.size_setIfInBounds]
   split
   · rw [Array.getInternal_eq_getElem,Array.getInternal_eq_getElem,Array.getElem_setIfInBounds_ne _ (Ne.symm h)]
   · rfl

def ahead (ops:Array Oper):Bool:=(List.range ops.size).all fun i=>match ops[i]? with
 | some o=>o.after.all fun e => !Region.binds .any e || decide (e.on<i)
 | none=>true

theorem zuo (h:ahead ops=true) {i:Nat} {o:Oper} (ho:ops[i]? = some o):∀ e∈o.after,Region.binds .any e=true→e.on<i:=by
 intro e he hb;have hlt:i<ops.size:=(Array.getElem?_eq_some_iff.1 ho).1;have h1:=List.all_eq_true.1 h i (List.mem_range.2 hlt);simp only [ho] at h1;have h2:=Array.all_eq_true_iff_forall_mem.1 h1 e he
 simpa [hb] using h2

theorem zun (hA:ahead ops=true) {listed:Array Bool} (hs:listed.size=ops.size) (h:Region.ready .any ops listed=[]):∀ i,i<ops.size→listed.getD i false=true:=by
 intro i
 induction i using Nat.strongRecOn with
 | ind i ih =>
   intro hi
   by_cases hl:listed.getD i false=true
   · exact hl
   · exfalso
     have ho:ops[i]? = some ops[i]:=Array.getElem?_eq_getElem hi
     have hr:i∈Region.ready .any ops listed:=(zj2 hs i).2 ⟨_,ho,by simpa using hl,fun e he hb=>by
      have:=zuo hA ho e he hb
      exact ih e.on this (by omega)⟩
     rw [h] at hr
     cases hr

theorem zuv (hA:ahead ops=true) (I:(Nat→Bool)→Act→World→Prop)
  (hstep:∀ (L:Nat→Bool) (a:Act) (w:World) (i:Nat) (o:Oper),I L a w→ops[i]? = some o→L i=false→(∀ e∈o.after,Region.binds .any e=true→L e.on=true)→wpOp P ops Q i (I (upd L i)) a w)
  (hend:∀ (L:Nat→Bool) (a:Act) (w:World),I L a w→(∀ i,i<ops.size→L i=true)→Q .normal a w) :
  ∀ (fuel:Nat) (listed:Array Bool) (a:Act) (w:World),listed.size=ops.size→zzb ops.size (fun j=>listed.getD j false)≤fuel→I (fun j=>listed.getD j false) a w→wpAny P .any ops Q fuel listed a w:=by
 intro fuel
 induction fuel with
 | zero =>
   intro listed a w hs hc hI;have hall:=zte (Nat.le_zero.1 hc);refine ⟨?_,hend _ a w hI hall⟩;refine List.eq_nil_iff_forall_not_mem.2 fun i hi => ?_;obtain ⟨o,ho,h1,_⟩:=(zj2 hs i).1 hi;have:=hall i (Array.getElem?_eq_some_iff.1 ho).1;rw [show listed.getD i false=true from this] at h1
   cases h1
 | succ fuel ih =>
   intro listed a w hs hc hI;refine ⟨fun h0=>hend _ a w hI (zun hA hs h0),fun i hi => ?_⟩;obtain ⟨o,ho,h1,h2⟩:=(zj2 hs i).1 hi;have hlt:i<ops.size:=(Array.getElem?_eq_some_iff.1 ho).1;refine wpOp_mono (fun a' w' hI' => ?_) (hstep _ a w i o hI ho h1 h2)
   refine ih _ a' w' (by simpa using hs) ?_ ?_
   · rw [zrb (by omega)]
     have:=zv7 (n:=ops.size) (L:=fun j=>listed.getD j false) hlt h1;omega
   · rw [zrb (by omega)]
     exact hI'

theorem zs9 (hm:P.follows .mixedOrders=true) (hA:ahead ops=true) (I:(Nat→Bool)→Act→World→Prop) {id:Nat} {a:Act} {w:World} (h0:I (fun _=>false) a w.drew)
  (hstep:∀ (L:Nat→Bool) (a:Act) (w:World) (i:Nat) (o:Oper),I L a w→ops[i]? = some o→L i=false→(∀ e∈o.after,Region.binds .any e=true→L e.on=true)→wpOp P ops Q i (I (upd L i)) a w)
  (hend:∀ (L:Nat→Bool) (a:Act) (w:World),I L a w→(∀ i,i<ops.size→L i=true)→Q .normal a w):(Code.region id ops true).wp P Q a w:=by
 refine wp_region_any hm ?_
 have hv:(fun j=>(Array.replicate ops.size false).getD j false)=fun _=>false:=by
  funext j
  simp only [Array.getD,Array.size_replicate,Array.getElem_replicate,ite_self,dite_eq_ite]
  split<;>simp
 refine zuv hA I hstep hend _ _ a _ (by simp) ?_ ?_
 · exact Nat.le_trans (List.length_filter_le _ _) (by simp)
 · rw [hv];exact h0

/-! ### One assertion for each operation -/

def ssa (ops:Array Oper) (n:Nat):Bool:=(List.range ops.size).all fun i=>match ops[i]? with
 | some o=>(match o.dst with
   | some d=>decide (d<n) && (List.range ops.size).all fun j=>j == i || (match ops[j]? with
     | some o'=>o'.dst != some d
     | none=>true)
   | none=>true)
 | none=>true

theorem zgh {n:Nat} (h:ssa ops n=true) {i:Nat} {o:Oper} {d:Tmp} (ho:ops[i]? = some o) (hd:o.dst=some d):d<n:=by
 have hlt:i<ops.size:=(Array.getElem?_eq_some_iff.1 ho).1;have h1:=List.all_eq_true.1 h i (List.mem_range.2 hlt);simp only [ho,hd,Bool.and_eq_true,decide_eq_true_eq] at h1;exact h1.1

theorem zd7 {n:Nat} (h:ssa ops n=true) {i j:Nat} {o o':Oper} {d:Tmp} (ho:ops[i]? = some o) (hd:o.dst=some d) (ho':ops[j]? = some o') (hne:j≠i):o'.dst≠some d:=by
 have hlt:i<ops.size:=(Array.getElem?_eq_some_iff.1 ho).1;have hlt':j<ops.size:=(Array.getElem?_eq_some_iff.1 ho').1;have h1:=List.all_eq_true.1 h i (List.mem_range.2 hlt);simp only [ho,hd,Bool.and_eq_true,decide_eq_true_eq] at h1
 have h2:=List.all_eq_true.1 h1.2 j (List.mem_range.2 hlt')
 simpa [ho',hne] using h2

def Fr (ops:Array Oper) (a0 a:Act):Prop:=
 a.tmps.size=a0.tmps.size∧a.defers=a0.defers∧∀ s,(∀ (i:Nat) (o:Oper),ops[i]? = some o→o.dst≠some s)→a.tmps.getD s undef=a0.tmps.getD s undef

def DagI (ops:Array Oper) (A:Nat→World→Value→Prop) (G:(Nat→Bool)→Act→World→Prop) (a0:Act) (L:Nat→Bool) (a:Act) (w:World):Prop:=
 Fr ops a0 a∧(∀ (i:Nat) (o:Oper) (d:Tmp),ops[i]? = some o→o.dst=some d→L i=true→A i w (a.tmps.getD d undef))∧G L a w

def yb7 (A:Nat→World→Value→Prop) (G:(Nat→Bool)→Act→World→Prop) (L:Nat→Bool) (i:Nat) (o:Oper) (a:Act) (w:World) (a':Act) (w':World):Prop:=
 ∃ v,a'=a.put o.dst v∧(∀ j u,A j w u→A j w' u)∧(∀ d,o.dst=some d→A i w' v)∧G (upd L i) a' w'

theorem za1 {a:Act} {d:Tmp} {v:Value} (h:d<a.tmps.size):(a.put (some d) v).tmps.getD d undef=v:=by
 simp [Act.put,Array.getD,h]
theorem zau {a:Act} {x:Option Tmp} {s:Tmp} {v:Value} (h:x≠some s):(a.put x v).tmps.getD s undef=a.tmps.getD s undef:=by
 cases x with
 | none=>rfl
 | some d =>
   have hne:d≠s:=fun e=>h (by rw [e]);rw [Array.getD_eq_getD_getElem?,Array.getD_eq_getD_getElem?];simp only [Act.put];rw [Array.getElem?_setIfInBounds_ne hne]
theorem zmk (a:Act) (x:Option Tmp) (v:Value):(a.put x v).tmps.size=a.tmps.size:=by cases x<;>simp [Act.put]
theorem zl6 (a:Act) (x:Option Tmp) (v:Value):(a.put x v).defers=a.defers:=by cases x<;>rfl

theorem yei {A:Nat→World→Value→Prop} {G:(Nat→Bool)→Act→World→Prop} {a0 a a':Act} {L:Nat→Bool} {w w':World} {i:Nat} {o:Oper} (hS:ssa ops a0.tmps.size=true)
  (h:DagI ops A G a0 L a w) (ho:ops[i]? = some o) (hs:yb7 A G L i o a w a' w'):DagI ops A G a0 (upd L i) a' w':=by
 obtain ⟨⟨f1,f2,f3⟩,hA,_⟩:=h;obtain ⟨v,rfl,hst,hv,hG⟩:=hs;refine ⟨⟨by rw [zmk];exact f1,by rw [zl6];exact f2,fun s hs => ?_⟩,fun j oj d hoj hd hL => ?_,hG⟩
 · rw [zau (hs i o ho)];exact f3 s hs
 · by_cases hij:j=i
   · subst hij
     rw [ho] at hoj
     injection hoj with hoj
     subst hoj;rw [hd,za1 (by rw [f1];exact zgh hS ho hd)];exact hv d hd
   · have hLj:L j=true:=by simpa [upd,hij] using hL
     rw [zau (zd7 hS hoj hd ho (Ne.symm hij))];exact hst _ _ (hA j oj d hoj hd hLj)

theorem zdo (hm:P.follows .mixedOrders=true) (hA:ahead ops=true) (A:Nat→World→Value→Prop) (G:(Nat→Bool)→Act→World→Prop) {id:Nat} {a:Act} {w:World} (hS:ssa ops a.tmps.size=true) (h0:G (fun _=>false) a w.drew)
  (hstep:∀ (L:Nat→Bool) (a':Act) (w:World) (i:Nat) (o:Oper),DagI ops A G a L a' w→ops[i]? = some o→L i=false→(∀ e∈o.after,Region.binds .any e=true→L e.on=true) →
    wpOp P ops Q i (yb7 A G L i o a' w) a' w)
  (hend:∀ (L:Nat→Bool) (a':Act) (w:World),Fr ops a a'→(∀ (i:Nat) (o:Oper) (d:Tmp),ops[i]? = some o→o.dst=some d→A i w (a'.tmps.getD d undef))→(∀ i,i<ops.size→L i=true)→G L a' w→Q .normal a' w) :
  (Code.region id ops true).wp P Q a w:=by
 refine zs9 hm hA (DagI ops A G a) ?_ ?_ ?_
 · exact ⟨⟨rfl,rfl,fun _ _=>rfl⟩,fun _ _ _ _ _ h=>(by cases h),h0⟩
 · intro L a' w i o hI ho hL hdep
   exact wpOp_mono (fun a2 w2 hs=>yei hS hI ho hs) (hstep L a' w i o hI ho hL hdep)
 · intro L a' w hI hall
   exact hend L a' w hI.1 (fun i o d ho hd=>hI.2.1 i o d ho hd (hall i (Array.getElem?_eq_some_iff.1 ho).1)) hall hI.2.2

theorem zbw {i:Nat} {o:Oper} {a:Act} {w:World} {K:Act→World→Prop} (ho:ops[i]? = some o) (hg:o.guard=none) (h:o.wp P a w K Q):wpOp P ops Q i K a w:=by
 unfold wpOp;rw [ho];simp only [Region.wanted,hg,if_true];exact Or.inl h

theorem zdq {o:Oper} {a:Act} {w:World} {next:Act→World→Prop} (v:Value) (h:(execOp a.eval o).run P w = .ok (.value v) w) (hn:next (a.put o.dst v) w):o.wp P a w next Q:=by
 unfold Oper.wp;rw [h];exact hn
theorem zq7 {o:Oper} {a:Act} {w:World} {next:Act→World→Prop} (f:FuncId) (args:Array Value) (h:(execOp a.eval o).run P w = .ok (.enter f args) w) (hc:Calls P f args w fun e w' => ∃ v,e = .returned v∧next (a.put o.dst v) w'):o.wp P a w next Q:=by
 unfold Oper.wp;rw [h,Oper.upon_enter];refine hc.mono ?_;rintro e w' ⟨v,rfl,hn⟩;exact hn
def putL (a:Act):List Oper→List Value→Act
 | o::os,v::vs=>putL (a.put o.dst v) os vs
 | _,_=>a
theorem zn1:∀ (os:List Oper) (vs:List Value) (a:Act),(putL a os vs).tmps.size=a.tmps.size
 | [],_,_=>by unfold putL;rfl
 | o::os,[],_=>by unfold putL;rfl
 | o::os,v::vs,a=>(zn1 os vs _).trans (zmk a o.dst v)
theorem zj3:∀ (os:List Oper) (vs:List Value) (a:Act),(putL a os vs).defers=a.defers
 | [],_,_=>by unfold putL;rfl
 | o::os,[],_=>by unfold putL;rfl
 | o::os,v::vs,a=>(zj3 os vs _).trans (zl6 a o.dst v)
theorem zh7 {s:Tmp}:∀ (os:List Oper) (vs:List Value) (a:Act),(∀ o∈os,o.dst≠some s)→(putL a os vs).tmps.getD s undef=a.tmps.getD s undef
 | [],_,_,_=>by unfold putL;rfl
 | o::os,[],_,_=>by unfold putL;rfl
 | o::os,v::vs,a,h=>(zh7 os vs _ (fun x hx=>h x (List.mem_cons_of_mem _ hx))).trans (zau (h o (List.mem_cons_self ..)))
theorem zn2 {s:Tmp} {u:Value}:∀ (os:List Oper) (vs:List Value) (a:Act),os.length=vs.length→s<a.tmps.size→(∀ (i:Nat) (o:Oper) (v:Value),os[i]? = some o→vs[i]? = some v→o.dst=some s→v=u)→(∃ o∈os,o.dst=some s)→(putL a os vs).tmps.getD s undef=u
 | [],_,_,_,_,_,h=>by obtain ⟨_,h,_⟩:=h;cases h
 | o::os,[],_,hl,_,_,_=>by cases hl
 | o::os,v::vs,a,hl,hs,hall,hex=>by
   by_cases h2:∃ x∈os,x.dst=some s
   · exact zn2 os vs _ (by simpa using hl) (by rw [zmk];exact hs) (fun i x y h3 h4 h5=>hall (i+1) x y (by simpa using h3) (by simpa using h4) h5) h2
   · have h3:o.dst=some s:=by
      obtain ⟨x,hx,hd⟩:=hex
      rcases List.mem_cons.1 hx with rfl|hx
      · exact hd
      · exact absurd ⟨x,hx,hd⟩ h2
     show (putL (a.put o.dst v) os vs).tmps.getD s undef=u;rw [zh7 os vs _ (fun x hx hd=>h2 ⟨x,hx,hd⟩),h3,za1 hs];exact hall 0 o v rfl rfl h3
theorem yev {a b:Act} (hs:a.tmps.size=b.tmps.size) (hd:a.defers=b.defers) (h:∀ s,a.tmps.getD s undef=b.tmps.getD s undef):a=b:=by
 obtain ⟨t,d⟩:=a;obtain ⟨t2,d2⟩:=b;dsimp only at hs hd h;subst hd
 congr 1
 refine Array.ext hs fun i h1 h2 => ?_;have h3:=h i;rw [Array.getD_eq_getD_getElem?,Array.getD_eq_getD_getElem?,Array.getElem?_eq_getElem h1,Array.getElem?_eq_getElem h2] at h3;exact h3
def zcl (a':Act) (os:List Oper):List Value:=os.map fun o=>match o.dst with|some d=>a'.tmps.getD d undef|none=>undef
theorem zen {a a':Act} (hS:ssa ops a.tmps.size=true) (h:Fr ops a a'):a'=putL a ops.toList (zcl a' ops.toList):=by
 obtain ⟨f1,f2,f3⟩:=h;refine yev (by rw [zn1];exact f1) (by rw [zj3];exact f2) fun s => ?_
 by_cases hex:∃ o∈ops.toList,o.dst=some s
 · have hlt:s<a.tmps.size:=by
    obtain ⟨o,ho,hd⟩:=hex;obtain ⟨i,hi⟩:=List.mem_iff_getElem?.1 ho;exact zgh hS (by simpa using hi) hd
   refine (zn2 ops.toList _ a (by simp [zcl]) hlt (fun i o v h1 h2 h3 => ?_) hex).symm;simp only [zcl,List.getElem?_map,h1,Option.map_some,h3,Option.some.injEq] at h2;exact h2.symm
 · rw [zh7 _ _ _ (fun o ho hd=>hex ⟨o,ho,hd⟩)]
   exact f3 s fun i o ho hd=>hex ⟨o,List.mem_iff_getElem?.2 ⟨i,by simpa using ho⟩,hd⟩
end
section
variable {P : Program} {ops : Array Oper} {Q : Exit → Act → World → Prop}
def zeb (ops:Array Oper) (A:Nat→World→Value→Prop) (o:Oper) (a:Act) (w:World):Prop := ∀ e∈o.after,Region.binds .any e=true→∀ oj d,ops[e.on]? = some oj→oj.dst=some d→A e.on w (a.tmps.getD d undef)
theorem zs7 (hm:P.follows .mixedOrders=true) (hA:ahead ops=true) (A:Nat→World→Value→Prop) {id:Nat} {a:Act} {w:World} (hS:ssa ops a.tmps.size=true)
  (hAm:∀ i v W W',Below W.heap.size W W'→A i W v→A i W' v)
  (hstep:∀ (i:Nat) (o:Oper),ops[i]? = some o→∀ a' W,Below w.heap.size w W→Fr ops a a'→zeb ops A o a' W→wpOp P ops Q i (fun a2 W2 => ∃ v,a2=a'.put o.dst v∧Below W.heap.size W W2∧(∀ d,o.dst=some d→A i W2 v)) a' W)
  (hend:∀ vs W,Below w.heap.size w W→vs.length=ops.size→(∀ (i:Nat) (o:Oper) (d:Tmp) (v:Value),ops[i]? = some o→o.dst=some d→vs[i]? = some v→A i W v)→Q .normal (putL a ops.toList vs) W) :
  (Code.region id ops true).wp P Q a w:=by
 refine zdo hm hA A (fun _ _ W=>Below w.heap.size w W) hS zBr.drew (fun L a' W i o hI ho hL hdep => ?_) (fun L a' W hfr hall hL hB => ?_)
 · refine wpOp_mono (fun a2 W2 h => ?_) (hstep i o ho a' W hI.2.2 hI.1 (fun e he hb oj d h1 h2=>hI.2.1 e.on oj d h1 h2 (hdep e he hb)))
   obtain ⟨v,rfl,hb,hv⟩:=h;exact ⟨v,rfl,fun j u h=>hAm j u _ _ hb h,hv,zao hI.2.2 hb⟩
 · rw [zen hS hfr]
   refine hend _ W hB (by simp [zcl]) fun i o d v ho hd hv => ?_;simp only [zcl,List.getElem?_map,Array.getElem?_toList,ho,Option.map_some,hd,Option.some.injEq] at hv;rw [← hv];exact hall i o d ho hd
end
section
variable {P : Program} {ops : Array Oper} {Q : Exit → Act → World → Prop}
def AllA (w:World) (ia:Nat) (A:Nat→World→Value→Prop) (i:Nat) (W:World) (v:Value):Prop:=if i=ia then ∃ b,v = .pointer (some ⟨b,0,none⟩)∧w.heap.size≤b∧b<W.heap.size else A i W v
def PutG (w:World) (ia is k:Nat) (da ds:Tmp) (T:TypeId) (zs:List Value) (L:Nat→Bool) (a:Act) (W:World):Prop:=Below w.heap.size w W∧(L is=true→L ia=true∧L k=true) ∧
 (L ia=true→∃ b,a.tmps.getD da undef = .pointer (some ⟨b,0,none⟩)∧w.heap.size≤b∧if L is=true then ∃ us:List Value,a.tmps.getD ds undef = .agg us.toArray∧Row W b T us else Row W b T zs)
theorem Row.setRow {w:World} {b:Nat} {T:TypeId} {vs:List Value} (h:Row w b T vs) (us:List Value):Row (w.setRow b us.toArray) b T us:=setRow_heap w b vs.toArray us.toArray T (0,0) h
theorem zph {w:World} {ia:Nat} {A:Nat→World→Value→Prop} (hAm:∀ i v W W',Below W.heap.size W W'→A i W v→A i W' v) {W W':World} (hb:Below W.heap.size W W') {j:Nat} {u:Value} (hj:AllA w ia A j W u):AllA w ia A j W' u:=by
 unfold AllA at hj ⊢
 split
 · rename_i h;rw [if_pos h] at hj
   obtain ⟨b,e,h2,h3⟩:=hj;exact ⟨b,e,h2,Nat.lt_of_lt_of_le h3 hb.size⟩
 · rename_i h;rw [if_neg h] at hj;exact hAm j u _ _ hb hj
theorem zs8 (hm:P.follows .mixedOrders=true) (hA:ahead ops=true) (A:Nat→World→Value→Prop) (ia is k:Nat) (da ds:Tmp) (T ty:TypeId) (zs:List Value) {id:Nat} {a:Act} {w:World} (hS:ssa ops a.tmps.size=true)
  (hng:ops.all (fun o=>o.guard.isNone)=true)
  (oa os ok:Oper) (ha1:ops[ia]? = some oa) (ha2:oa.dst=some da) (ha3:∀ W ev,(execOp ev oa).run P W = .ok (.value (.pointer (some ⟨W.heap.size,0,none⟩))) (W.alloc (.cells zs.toArray T)))
  (hs1:ops[is]? = some os) (hs2:os.dst=none) (hs3:os.op = .store ty (.tmp da) (.tmp ds)) (hk1:ops[k]? = some ok) (hk2:ok.dst=some ds)
  (hsa0:(os.after.toList.any fun e=>Region.binds .any e && e.on == ia)=true) (hsk0:(os.after.toList.any fun e=>Region.binds .any e && e.on == k)=true) (hki:k≠ia) (hia:ia≠is)
  (hz:(P.info? ty).map (·.size)=some zs.length)
  (hkA:∀ W v,A k W v→∃ us:List Value,v = .agg us.toArray∧us.length=zs.length∧∀ u∈us,u.oneCell'=true)
  (hAm:∀ i v W W',Below W.heap.size W W'→A i W v→A i W' v)
  (hAs:∀ (i:Nat) (v:Value) (W:World) (b:Nat) (us:List Value),w.heap.size≤b→Row W b T zs→us.length=zs.length→A i W v→A i (W.setRow b us.toArray) v)
  (hstep:∀ (i:Nat) (o:Oper),i≠ia→i≠is→ops[i]? = some o→∀ a' W,Below w.heap.size w W→Fr ops a a'→zeb ops (AllA w ia A) o a' W→o.wp P a' W (fun a2 W2 => ∃ v,a2=a'.put o.dst v∧Below W.heap.size W W2∧A i W2 v) Q)
  (hend:∀ (vs:List Value) (W:World) (b:Nat) (us:List Value),Below w.heap.size w W→vs.length=ops.size→(∀ (i:Nat) (o:Oper) (d:Tmp) (v:Value),i≠ia→ops[i]? = some o→o.dst=some d→vs[i]? = some v→A i W v) →
    w.heap.size≤b→vs[ia]? = some (.pointer (some ⟨b,0,none⟩))→vs[k]? = some (.agg us.toArray)→Row W b T us→Q .normal (putL a ops.toList vs) W) :
  (Code.region id ops true).wp P Q a w:=by
 have hgd:∀ (i:Nat) (o:Oper),ops[i]? = some o→o.guard=none:=fun i o ho=>by
  have h1:=Array.all_eq_true_iff_forall_mem.1 hng o (Array.mem_of_getElem? ho)
  simpa using h1
 have hdep1:∀ j,(os.after.toList.any fun e=>Region.binds .any e && e.on == j)=true→∃ e∈os.after,Region.binds .any e=true∧e.on=j:=fun j h=>by
  obtain ⟨e,he,h1⟩:=List.any_eq_true.1 h;simp only [Bool.and_eq_true,beq_iff_eq] at h1;exact ⟨e,by simpa using he,h1.1,h1.2⟩
 have hsa:=hdep1 ia hsa0;have hsk:=hdep1 k hsk0
 have hds:da≠ds:=fun e=>by
  have:=zd7 hS ha1 ha2 hk1 hki;rw [hk2,e] at this;exact this rfl
 refine zdo hm hA (AllA w ia A) (PutG w ia is k da ds T zs) hS ⟨zBr.drew,(fun h=>by cases h),(fun h=>by cases h)⟩ (fun L a' W i o hI ho hL hdep => ?_) (fun L a' W hfr hall hL hG => ?_)
 · obtain ⟨hFr,hV,hB,hGs,hG⟩:=hI
   have hD:zeb ops (AllA w ia A) o a' W:=fun e he hb oj d h1 h2=>hV e.on oj d h1 h2 (hdep e he hb);refine zbw ho (hgd i o ho) ?_
   by_cases h1:i=ia
   · subst h1
     rw [ha1] at ho
     injection ho with ho
     subst ho;unfold Oper.wp;rw [ha3];have hb:Below W.heap.size W (W.alloc (.cells zs.toArray T)):=zBr.alloc zNr _
     have hLs:¬ L is=true:=fun h=>by rw [(hGs h).1] at hL;cases hL
     refine ⟨_,rfl,fun j u hj=>zph hAm hb hj,fun d hd => ?_,zao hB hb,fun h => ?_,fun _=>⟨W.heap.size,?_,hB.size,?_⟩⟩
     · unfold AllA
       rw [if_pos rfl];exact ⟨W.heap.size,rfl,hB.size,by simp⟩
     · exact absurd (by simpa [upd,Ne.symm hia] using h) hLs
     · rw [ha2]
       exact za1 (by rw [hFr.1];exact zgh hS ha1 ha2)
     · rw [if_neg (by simp [upd,Ne.symm hia];simpa using hLs)]
       exact Row.new W T zs
   · by_cases h2:i=is
     · subst h2
       rw [hs1] at ho
       injection ho with ho
       subst ho
       have hLa:L ia=true:=by
        obtain ⟨e,he,hb2,h3⟩:=hsa;rw [← h3];exact hdep e he hb2
       have hLk:L k=true:=by
        obtain ⟨e,he,hb2,h3⟩:=hsk;rw [← h3];exact hdep e he hb2
       obtain ⟨b,e1,h3,h4⟩:=hG hLa;rw [if_neg (by rw [hL];decide)] at h4
       have hAk:A k W (a'.tmps.getD ds undef):=by
        have:=hV k ok ds hk1 hk2 hLk;unfold AllA at this
        rwa [if_neg hki] at this
       obtain ⟨us,e2,h6,h7⟩:=hkA W _ hAk;refine wp_store_row ty (.tmp da) (.tmp ds) hs3 b us.toArray e1 e2 T zs.toArray h4 (by rw [hz];simp [h6]) (by simp [h6]) (all_oneCell_toArray h7) ?_
       refine ⟨undef,rfl,fun j u hj => ?_,fun d hd=>(by rw [hs2] at hd;cases hd),below_setRow hB h3 _,fun _=>⟨by simp [upd,hLa],by simp [upd,hLk]⟩,fun _=>⟨b,?_,h3,?_⟩⟩
       · unfold AllA at hj ⊢
         split
         · rename_i h;rw [if_pos h] at hj
           obtain ⟨b,e,h2,h3⟩:=hj;exact ⟨b,e,h2,by simpa using h3⟩
         · rename_i h;rw [if_neg h] at hj;exact hAs j u W b us h3 h4 h6 hj
       · rw [hs2];exact e1
       · rw [if_pos (by simp [upd]),hs2]
         exact ⟨us,e2,h4.setRow us⟩
     · refine Oper.wp_mono (fun a2 W2 h => ?_) (hstep i o h1 h2 ho a' W hB hFr hD)
       obtain ⟨v,rfl,hb,hv⟩:=h
       have hu1:upd L i ia=L ia:=by simp [upd,Ne.symm h1]
       have hu2:upd L i is=L is:=by simp [upd,Ne.symm h2]
       refine ⟨v,rfl,fun j u hj=>zph hAm hb hj,fun d hd => ?_,zao hB hb,fun h => ?_,fun h => ?_⟩
       · unfold AllA
         rw [if_neg h1];exact hv
       · rw [hu2] at h
         refine ⟨by rw [hu1];exact (hGs h).1,?_⟩;unfold upd;rw [(hGs h).2,Bool.or_true]
       · rw [hu1] at h
         obtain ⟨b,e1,h3,h4⟩:=hG h;refine ⟨b,by rw [zau (zd7 hS ha1 ha2 ho h1)];exact e1,h3,?_⟩;rw [hu2]
         by_cases hLs:L is=true
         · rw [if_pos hLs] at h4 ⊢
           obtain ⟨us,e2,h5⟩:=h4
           have hik:i≠k:=fun e=>by rw [← e] at hGs;rw [(hGs hLs).2] at hL;cases hL
           exact ⟨us,by rw [zau (zd7 hS hk1 hk2 ho hik)];exact e2,h5.below hb⟩
         · rw [if_neg hLs] at h4 ⊢
           exact h4.below hb
 · obtain ⟨hB,_,hG⟩:=hG
   obtain ⟨b,e1,h3,h4⟩:=hG (hL ia (Array.getElem?_eq_some_iff.1 ha1).1);rw [if_pos (hL is (Array.getElem?_eq_some_iff.1 hs1).1)] at h4;obtain ⟨us,e2,h5⟩:=h4;rw [zen hS hfr];refine hend _ W b us hB (by simp [zcl]) (fun i o d v hi ho hd hv => ?_) h3 ?_ ?_ h5
   · simp only [zcl,List.getElem?_map,Array.getElem?_toList,ho,Option.map_some,hd,Option.some.injEq] at hv
     rw [← hv];have:=hall i o d ho hd;unfold AllA at this
     rwa [if_neg hi] at this
   · simp only [zcl,List.getElem?_map,Array.getElem?_toList,ha1,Option.map_some,ha2,e1]
   · simp only [zcl,List.getElem?_map,Array.getElem?_toList,hk1,Option.map_some,hk2,e2]
end
section
variable {P : Program} {ops : Array Oper} {Q : Exit → Act → World → Prop} {o : Oper} {a a' : Act} {w W : World} {next : Act → World → Prop}
def free (ops:Array Oper) (s:Tmp):Bool:=ops.all fun o=>o.dst != some s
theorem zap {s:Tmp} (hF:Fr ops a a') (h:free ops s=true):a'.eval (.tmp s)=a.eval (.tmp s):=
 hF.2.2 s fun i o ho hd=>by
  have h1:=Array.all_eq_true_iff_forall_mem.1 h o (Array.mem_of_getElem? ho);rw [hd] at h1;simp at h1
theorem zai {A:Nat→World→Value→Prop} (hD:zeb ops A o a' W) (j:Nat) {d:Tmp} (h:(o.after.toList.any fun e=>Region.binds .any e && e.on == j)=true) {oj:Oper} (hoj:ops[j]? = some oj) (hd:oj.dst=some d):A j W (a'.eval (.tmp d)):=by
 obtain ⟨e,he,h1⟩:=List.any_eq_true.1 h;simp only [Bool.and_eq_true,beq_iff_eq] at h1;have h2:=hD e (by simpa using he) h1.1 oj d (by rw [h1.2];exact hoj) hd;rw [h1.2] at h2;exact h2
theorem zf4 (ty:TypeId) (x:Operand) (ho:o.op = .load ty x) (b off:Nat) (cs:List Value) (d:TypeDesc) (hx:a.eval x = .pointer (some ⟨b,off,none⟩)) (hr:w.rangeAt b off cs) (hu:P.underlying ty=some d) (hd:d.isRow=true) (hi:(P.info? ty).map (·.size)=some cs.length)
  (hn:next (a.put o.dst (.agg cs.toArray)) w):o.wp P a w next Q:=
 zdq _ (by unfold execOp;simp only [ho,hx,Instr.loadAt,Instr.sureAddr,Sem.run_bind,Sem.run_pure,Result.andThen_ok,run_loadVar_mid w b off ty cs d hr hu hd hi]) hn
theorem zb5 (x:Operand) (ho:o.op = .move x∨o.op = .assign x) (hn:next (a.put o.dst (a.eval x)) w):o.wp P a w next Q:=
 zdq _ (by rcases ho with ho|ho<;>(unfold execOp;simp only [ho];rfl)) hn
theorem zfq (t:TypeId) (parts:Array (Nat × Operand)) (ho:o.op = .build t parts) (l:List (Nat × Value)) (hl:(parts.map fun (i,x)=>(i,a.eval x)).toList=l) (cells:Array Value) (hc:P.built t l=some cells) (hn:next (a.put o.dst (.agg cells)) w):o.wp P a w next Q:=
 zdq _ (by
  unfold execOp;subst hl;simp only [ho,Sem.run_bind,run_build w t _ cells hc,Result.andThen_ok]
  rfl) hn
theorem zc3 (f:FuncId) (args:Array Operand) (tys:Array TypeId) (ho:o.op = .call { callee := .value (.func f),args:=args,argTypes:=tys }) (vs:Array Value) (ha:args.map a.eval=vs) (he:∀ args w,(callFunc f args).run P w = .ok (.enter f args) w) (hc:Calls P f vs w fun e w' => ∃ v,e = .returned v∧next (a.put o.dst v) w'):o.wp P a w next Q:=
 zq7 f vs (by
  unfold execOp;simp [ho,resolve,invoke,Act.eval,go_sem,he]
  exact ha) hc
end

abbrev Blk:=Nat × TypeId × List Value
structure zi9 (L:List Blk) (w w':World):Prop where
 os:w'.os=w.os
 tape:w'.tape=w.tape
 output:w'.output=w.output
 size:w.heap.size≤w'.heap.size
 block:∀ k,k<w.heap.size→k ∉ L.map (·.1)→w'.heap[k]? = w.heap[k]?
def Stab (L:List Blk) (w:World) (F:World→Prop):Prop := ∀ w',zi9 L w w'→F w'
structure Mine (w0 w:World) (L:List Blk) (FS:List (World→Prop)):Prop where
 bw:Below w0.heap.size w0 w
 rows:∀ r∈L,Row w r.1 r.2.1 r.2.2∧w0.heap.size≤r.1
 nd:(L.map (·.1)).Nodup
 fs:∀ F∈FS,Stab L w F
section
variable {w0 w w' w'' : World} {L : List Blk} {FS : List (World → Prop)}
theorem zi9.refl (L:List Blk) (w:World):zi9 L w w:=⟨rfl,rfl,rfl,Nat.le_refl _,fun _ _ _=>rfl⟩
theorem zi9.trans (h:zi9 L w w') (h2:zi9 L w' w''):zi9 L w w'':=⟨h2.os.trans h.os,h2.tape.trans h.tape,h2.output.trans h.output,Nat.le_trans h.size h2.size,fun k hk hn=>(h2.block k (Nat.lt_of_lt_of_le hk h.size) hn).trans (h.block k hk hn)⟩
theorem zi9.of_below (L:List Blk) (h:Below w.heap.size w w'):zi9 L w w':=⟨h.os,h.tape,h.output,h.size,fun k hk _=>h.block k hk⟩
theorem Stab.out {F:World→Prop} (h:Stab L w F):F w:=h w (zi9.refl _ _)
theorem Stab.step {F:World→Prop} (h:Stab L w F) (ha:zi9 L w w'):Stab L w' F:=fun w'' h2=>h w'' (ha.trans h2)
theorem Stab.wider {F:World→Prop} {L':List Blk} (h:Stab L w F) (hb:∀ k,k<w.heap.size→k ∉ L.map (·.1)→k ∉ L'.map (·.1)):Stab L' w F:=fun w' h2=>h w' ⟨h2.os,h2.tape,h2.output,h2.size,fun k hk hn=>h2.block k hk (hb k hk hn)⟩
theorem Mine.refl (w:World):Mine w w [] []:=⟨Below.refl _ _,(fun _ h=>by cases h),List.nodup_nil,fun _ h=>by cases h⟩
theorem Mine.row {i b:Nat} {T:TypeId} {vs:List Value} (h:Mine w0 w L FS) (hi:L[i]? = some (b,T,vs)):Row w b T vs:=(h.rows _ (List.mem_of_getElem? hi)).1
theorem Mine.ge {i b:Nat} {T:TypeId} {vs:List Value} (h:Mine w0 w L FS) (hi:L[i]? = some (b,T,vs)):w0.heap.size≤b:=(h.rows _ (List.mem_of_getElem? hi)).2
theorem Mine.fact {i:Nat} {F:World→Prop} (h:Mine w0 w L FS) (hi:FS[i]? = some F):F w:=(h.fs _ (List.mem_of_getElem? hi)).out
theorem Mine.fresh {b:Nat} (h:Mine w0 w L FS) (hb:w.heap.size≤b):b ∉ L.map (·.1):=fun hm=>by
 obtain ⟨r,hr,rfl⟩:=List.mem_map.1 hm;have:=(h.rows r hr).1.lt;omega
theorem Mine.call (h:Mine w0 w L FS) (hb:Below w.heap.size w w'):Mine w0 w' L FS:=
 ⟨zao h.bw hb,fun r hr=>⟨(h.rows r hr).1.below hb,(h.rows r hr).2⟩,h.nd,fun F hF=>(h.fs F hF).step (.of_below L hb)⟩
theorem Mine.add {F:World→Prop} (h:Mine w0 w L FS) (hF:Stab L w F):Mine w0 w L (F::FS):=⟨h.bw,h.rows,h.nd,fun G hG=>by
 rcases List.mem_cons.1 hG with rfl|hG
 · exact hF
 · exact h.fs G hG⟩
theorem Mine.join {b:Nat} {T:TypeId} {vs:List Value} (h:Mine w0 w L FS) (hb:Below w.heap.size w w') (hg:w.heap.size≤b) (hr:Row w' b T vs):Mine w0 w' ((b,T,vs)::L) FS:=
 ⟨zao h.bw hb,fun r hm=>by
   rcases List.mem_cons.1 hm with rfl|hm
   · exact ⟨hr,Nat.le_trans h.bw.size hg⟩
   · exact ⟨(h.rows r hm).1.below hb,(h.rows r hm).2⟩,by
   rw [List.map_cons,List.nodup_cons]
   exact ⟨h.fresh hg,h.nd⟩,fun F hF w'' ha=>h.fs F hF w'' ⟨ha.os.trans hb.os,ha.tape.trans hb.tape,ha.output.trans hb.output,Nat.le_trans hb.size ha.size,fun k hk hn=>(ha.block k (Nat.lt_of_lt_of_le hk hb.size) (by
    rw [List.map_cons,List.mem_cons,not_or]
    exact ⟨by dsimp only;omega,hn⟩)).trans (hb.block k hk)⟩⟩
theorem Mine.alloc (h:Mine w0 w L FS) (T:TypeId) (vs:List Value):Mine w0 (w.alloc (.cells vs.toArray T)) ((w.heap.size,T,vs)::L) FS:=
 h.join (zBr.alloc zNr _) zNr (Row.new w T vs)
theorem zp5 {i b:Nat} {T:TypeId} {vs us:List Value} (hi:L[i]? = some (b,T,vs)):(L.set i (b,T,us)).map (·.1)=L.map (·.1):=by
 rw [List.map_set];dsimp only;refine List.ext_getElem? fun j => ?_;rw [List.getElem?_set]
 split
 · rename_i e
   subst e;have hl:i<L.length:=(List.getElem?_eq_some_iff.1 hi).1;rw [List.length_map,if_pos hl,List.getElem?_map,hi]
   rfl
 · rfl
theorem Mine.store {i b:Nat} {T:TypeId} {vs us:List Value} {L':List Blk} (h:Mine w0 w L FS) (hi:L[i]? = some (b,T,vs)) (hL:L.set i (b,T,us)=L') (hr:Row w' b T us) (hB:Below w0.heap.size w0 w') (hH:w'.heap.size=w.heap.size∧∀ b',b'≠b→w'.heap[b']? = w.heap[b']?):Mine w0 w' L' FS:=by
 subst hL;have hm:=zp5 (us:=us) hi;have hbm:b∈L.map (·.1):=List.mem_map.2 ⟨_,List.mem_of_getElem? hi,rfl⟩;have hA:zi9 L w w':=⟨hB.os.trans h.bw.os.symm,hB.tape.trans h.bw.tape.symm,hB.output.trans h.bw.output.symm,by omega,fun k _ hn=>hH.2 k (fun e=>hn (e ▸ hbm))⟩
 refine ⟨hB,fun r hr' => ?_,by rw [hm];exact h.nd,fun F hF=>((h.fs F hF).step hA).wider (fun k _ hn=>by rw [hm];exact hn)⟩
 rcases List.mem_or_eq_of_mem_set hr' with hr'|rfl
 · by_cases hrb:r.1=b
   · obtain ⟨j,hj⟩:=List.mem_iff_getElem?.1 hr'
     have hl:i<L.length:=(List.getElem?_eq_some_iff.1 hi).1;obtain ⟨j',hj'⟩:=List.mem_iff_getElem?.1 hr'
     have hnd:((L.set i (b,T,us)).map (·.1)).Nodup:=by rw [hm];exact h.nd
     obtain ⟨q,hq⟩:=List.mem_iff_getElem?.1 ‹r∈L.set i (b,T,us)›
     have h1:((L.set i (b,T,us)).map (·.1))[q]? = some b:=by rw [List.getElem?_map,hq,← hrb];rfl
     have h2:((L.set i (b,T,us)).map (·.1))[i]? = some b:=by rw [List.getElem?_map,List.getElem?_set_self hl];rfl
     have hqi:q=i:=by
      obtain ⟨l1,e1⟩:=List.getElem?_eq_some_iff.1 h1;obtain ⟨l2,e2⟩:=List.getElem?_eq_some_iff.1 h2;exact (List.getElem_inj hnd).1 (e1.trans e2.symm)
     subst hqi;rw [List.getElem?_set_self hl] at hq
     injection hq with hq
     subst hq;exact ⟨hr,h.ge hi⟩
   · exact ⟨((h.rows r hr').1).heap (hH.2 _ hrb),(h.rows r hr').2⟩
 · exact ⟨hr,h.ge hi⟩
theorem Mine.setCell {i b off:Nat} {T:TypeId} {vs:List Value} {L':List Blk} (u:Value) (h:Mine w0 w L FS) (hi:L[i]? = some (b,T,vs)) (hL:L.set i (b,T,vs.set off u)=L'):Mine w0 (w.setCell ⟨b,off,none⟩ u) L' FS:=
 h.store hi hL ((h.row hi).set off u) (h.bw.setCell (h.ge hi) u) ⟨by simp [World.setCell],fun b' hb'=>Below.heap_setCell w ⟨b,off,none⟩ u b' hb'⟩
theorem Mine.rest {r:Blk} (h:Mine w0 w (r::L) FS):Mine w0 w L ((fun W=>Row W r.1 r.2.1 r.2.2)::FS):=
 ⟨h.bw,fun x hx=>h.rows x (List.mem_cons_of_mem _ hx),(by have:=h.nd;rw [List.map_cons,List.nodup_cons] at this;exact this.2),fun F hF w' ha=>by
   have hnd:=h.nd;rw [List.map_cons,List.nodup_cons] at hnd
   rcases List.mem_cons.1 hF with rfl|hF
   · have hr:=(h.rows r (List.mem_cons_self ..)).1
     exact hr.heap (ha.block _ hr.lt hnd.1)
   · exact h.fs F hF w' ⟨ha.os,ha.tape,ha.output,ha.size,fun k hk hn=>ha.block k hk (fun hm=>hn (by rw [List.map_cons];exact List.mem_cons_of_mem _ hm))⟩⟩
theorem Mine.sub {L':List Blk} (h:Mine w0 w L FS) (hs:∀ r∈L',r∈L) (hn:(L'.map (·.1)).Nodup):Mine w0 w L' FS:=
 ⟨h.bw,fun r hr=>h.rows r (hs r hr),hn,fun F hF=>(h.fs F hF).wider fun k _ hk hm=>hk (by
   obtain ⟨r,hr,e⟩:=List.mem_map.1 hm
   exact List.mem_map.2 ⟨r,hs r hr,e⟩)⟩
theorem Mine.tail {r:Blk} (h:Mine w0 w (r::L) FS):Mine w0 w L FS:=h.sub (fun x hx=>List.mem_cons_of_mem _ hx) (by have:=h.nd;rw [List.map_cons,List.nodup_cons] at this;exact this.2)
theorem Mine.less {FS':List (World→Prop)} (h:Mine w0 w L FS) (hs:∀ F∈FS',F∈FS):Mine w0 w L FS':=⟨h.bw,h.rows,h.nd,fun F hF=>h.fs F (hs F hF)⟩
theorem za9 {A:Option Addr} {cs:List Value} (h:Rds w w.heap.size A cs) (hn:∀ b o s,A=some ⟨b,o,s⟩→b ∉ L.map (·.1)):Stab L w (fun W=>Rds W W.heap.size A cs):=fun w' ha hp=>by
 obtain ⟨b,o,e,hb,hc⟩:=h hp;refine ⟨b,o,e,Nat.lt_of_lt_of_le hb ha.size,fun j u hu => ?_⟩;rw [World.cell?_of_block (w:=w) (a:=⟨b,o+j,none⟩) (ha.block b hb (hn b o none e))];exact hc j u hu
end
section
variable {P : Program} {ops : Array Oper} {rest : List Oper} {op : Oper} {a : Act} {w0 w : World} {Q : Exit → Act → World → Prop}
theorem zak (hgd:op.guard=none) (ty:TypeId) (x y:Operand) (ho:op.op = .store ty x y) (zs us:List Value) {T:TypeId}
  (hx:a.eval x = .pointer (some ⟨w.heap.size,0,none⟩)) (hy:a.eval y = .agg us.toArray) (hl:zs.length=us.length) (hi:(P.info? ty).map (·.size)=some us.length) (h1:∀ u∈us,u.oneCell'=true)
  (h:∀ w',Hid (Row w' w.heap.size T us)→Hid (Below w.heap.size w w')→wpList P ops Q rest (a.put op.dst undef) w'):wpList P ops Q (op::rest) a (w.alloc (.cells zs.toArray T)):=
 zbx hgd ty x y ho (Row.new w T zs) us hx hy hl hi h1 ((Below.refl w.heap.size w).alloc zNr _) zNr fun w' h1 h2 _=>h w' h1 h2
theorem zad {L:List Blk} {FS:List (World→Prop)} (hS:Mine w0 w L FS) (i:Nat) (hgd:op.guard=none) (ty:TypeId) (x y:Operand) (ho:op.op = .store ty x y) {b:Nat} {T:TypeId} {vs:List Value} (us:List Value) (L':List Blk) (hi:L[i]? = some (b,T,vs)) (hL:L.set i (b,T,us)=L')
  (hx:a.eval x = .pointer (some ⟨b,0,none⟩)) (hy:a.eval y = .agg us.toArray) (hl:vs.length=us.length) (hz:(P.info? ty).map (·.size)=some us.length) (h1:∀ u∈us,u.oneCell'=true)
  (h:∀ w',Hid (Mine w0 w' L' FS)→wpList P ops Q rest (a.put op.dst undef) w'):wpList P ops Q (op::rest) a w:=
 zbx hgd ty x y ho (hS.row hi) us hx hy hl hz h1 hS.bw (hS.ge hi) fun w' k1 k2 k3=>h w' (kd (hS.store hi hL k1.out k2.out k3.out))
end

abbrev EXPN:ByteArray:=⟨#[83,101,115,115,105,111,110,45,69,120,112,105,114,101,115]⟩
abbrev SUPN:ByteArray:=⟨#[83,117,112,112,111,114,116,101,100]⟩
abbrev V1800:ByteArray:=⟨#[49,56,48,48]⟩
abbrev VTIM:ByteArray:=⟨#[116,105,109,101,114]⟩
def WH:List (ByteArray × ByteArray):=[(EXPN,V1800),(SUPN,VTIM)]
end Go.Proofs.YtfnmkedncfdceaaGreatDoor
