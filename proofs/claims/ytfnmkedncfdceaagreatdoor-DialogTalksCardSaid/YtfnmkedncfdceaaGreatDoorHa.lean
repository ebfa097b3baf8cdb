/- Memory words: a block known whole, a slice of bytes, a slice of one's own. And what stands behind it. -/
import Derived.Test.YtfnmkedncfdceaaGreatDoorCb
import Derived.Deep.RegionLaw
import Derived.BigRegion
import Derived.Deep.DeepCutAuto
import Derived.Deep.MidRow
import Derived.Deep.RegionHeld3
import Derived.Laws.AppendOwnNone
import Derived.Laws.MakeOwn
import Derived.StillTailTactics
set_option linter.unusedVariables false
set_option linter.unusedSimpArgs false
set_option maxRecDepth 100000
namespace Go.Proofs.YtfnmkedncfdceaaGreatDoor
open Go.RowKit

def Row (w:World) (b:Nat) (T:TypeId) (vs:List Value):Prop:=w.heap[b]? = some (.cells vs.toArray T (0,0))
section
variable {w w1 : World} {b : Nat} {T : TypeId} {vs : List Value}
theorem Row.lt (h:Row w b T vs):b<w.heap.size:=by
 rcases Nat.lt_or_ge b w.heap.size with h1|h1
 · exact h1
 · unfold Row at h;rw [Array.getElem?_eq_none h1] at h;cases h
theorem Row.cell (h:Row w b T vs) (i:Nat):w.cell? ⟨b,i,none⟩=vs[i]? := by
 rw [cell_of_row w b i _ _ (0,0) h];simp
theorem Row.frozen (h:Row w b T vs) (i:Nat):w.frozen? ⟨b,i,none⟩=false:=by unfold Row at h;simp [World.frozen?,h]
theorem Row.of (h:Row w b T vs) (he:w1.heap[b]? = w.heap[b]?):Row w1 b T vs:=he.trans h
theorem Row.below (h:Row w b T vs) (hb:Below w.heap.size w w1):Row w1 b T vs:=h.of (hb.block b h.lt)
theorem Row.alloc (h:Row w b T vs) (o:Obj):Row (w.alloc o) b T vs:=h.below (zBr.alloc zNr o)
theorem Row.drew (h:Row w b T vs):Row w.drew b T vs:=h
theorem Row.drewN (h:Row w b T vs) (n:Nat):Row (w.drewN n) b T vs:=h
theorem Row.set (h:Row w b T vs) (i:Nat) (u:Value):Row (w.setCell ⟨b,i,none⟩ u) b T (vs.set i u):=by
 unfold Row at h ⊢;simp [World.setCell,Array.getElem?_modify,h]
theorem Row.setOther (h:Row w b T vs) {p i:Nat} (hp:p≠b) (u:Value):Row (w.setCell ⟨p,i,none⟩ u) b T vs:=h.of (Below.heap_setCell w _ u b (Ne.symm hp))
theorem Row.new (w:World) (T:TypeId) (vs:List Value):Row (w.alloc (.cells vs.toArray T)) w.heap.size T vs:=heap_alloc_new w _
end
def U8 (l:List Int):List Value:=l.map (Value.int .u8)
theorem yb6 {l:List Int} {i:Nat} {x:Int} (h:l[i]? = some x):(U8 l)[i]? = some (.int .u8 x):=by simp [U8,h]
theorem Row.there {w:World} {b:Nat} {T:TypeId} {vs:List Value} (h:Row w b T vs):w.there b 0 vs.length:=fun j hj=>by
 rw [Nat.zero_add,h.cell j,List.getElem?_eq_getElem hj];exact ⟨rfl,h.frozen j⟩
theorem Row.range {w:World} {b:Nat} {T:TypeId} {vs:List Value} (h:Row w b T vs):w.rangeAt b 0 vs:=fun j v hv=>by
 rw [Nat.zero_add,h.cell j,hv]
theorem Row.setCells {b:Nat} {T:TypeId}:∀ (us old pre post:List Value) (w:World),Row w b T (pre++old++post)→old.length=us.length→Row (w.setCells b pre.length us) b T (pre++us++post)
 | [],old,pre,post,w,h,he=>by
   obtain rfl:old=[]:=List.eq_nil_of_length_eq_zero he;exact h
 | u::us,[],pre,post,w,h,he=>by cases he
 | u::us,o::old,pre,post,w,h,he=>by
   have h1:=h.set pre.length u
   have e:(pre++o::old++post).set pre.length u=(pre++[u])++old++post:=by simp [List.set_append]
   rw [e] at h1;have h2:=Row.setCells us old (pre++[u]) post _ h1 (by simpa using he);rw [World.setCells]
   simpa using h2
theorem Row.setAll {w:World} {b:Nat} {T:TypeId} {vs:List Value} (h:Row w b T vs) (us:List Value) (he:vs.length=us.length):Row (w.setCells b 0 us) b T us:=by
 have h2:=Row.setCells us vs [] [] w (by simpa using h) he
 simpa using h2
theorem zbs {N b:Nat} {w:World} (hb:N≤b):∀ (us:List Value) (o:Nat) (w1:World),Below N w w1→Below N w (w1.setCells b o us)
 | [],_,_,h=>h
 | u::us,o,w1,h=>zbs hb us (o+1) _ (h.setCell (by exact hb) u)
def Bs (w:World) (B:Nat) (A:Option Addr) (xs:List Int):Prop:=0<xs.length→∃ ad,A=some ad∧ad.block<B∧∀ j x,xs[j]? = some x→w.cell? (ad.add j)=some (.int .u8 x)
section
variable {w w' : World} {B : Nat} {A : Option Addr} {xs : List Int}
end
theorem zet {P:Program} {ops:Array Oper} {rest:List Oper} {op:Oper} {a:Act} {w:World} {Q:Exit→Act→World→Prop} (hgd:op.guard=none) (v:Value) (w':World)
  (hrun:(execOp a.eval op).run P w = .ok (.value v) w') (h:wpList P ops Q rest (a.put op.dst v) w'):wpList P ops Q (op::rest) a w:=
 wpList_plain hgd fun _ hK=>by
  unfold Oper.wp;simp only [hrun];exact hK _ _ h
theorem zl4 {P:Program} {ρ : Operand→Value} {op:Oper} {ty:TypeId} {cs:List Value} {w:World} (ho:op.op = .alloc ty) (hz:(P.info? ty).bind (·.zero)=some (.agg cs.toArray)) :
  (execOp ρ op).run P w = .ok (.value (.pointer (some ⟨w.heap.size,0,none⟩))) (w.alloc (.cells cs.toArray ty)):=by
 cases hq:P.info? ty with
 | none=>simp [hq] at hz
 | some i =>
   have hz':i.zero=some (.agg cs.toArray):=by simpa [hq] using hz
   unfold execOp;simp [ho,Instr.alloc,zeroValue,typeInfo,hq,hz',newVar,Value.cells]
   rfl
theorem zxg {P:Program} {ρ : Operand→Value} {op:Oper} {d s:Operand} {dT sT:TypeId} {vd vs v:Value} {w w':World} (ho:op.op = .call { callee := .builtin .copy,args:=#[d,s],argTypes:=#[dT,sT] })
  (hd : ρ d=vd) (hs : ρ s=vs) (hrun:(Builtin.copy_ #[dT,sT] op.type #[vd,vs]).run P w = .ok v w'):(execOp ρ op).run P w = .ok (.value v) w':=by
 unfold execOp;simp only [ho,resolve,invoke,builtin,Sem.run_bind,Sem.run_pure,Result.andThen_ok,List.map_toArray,List.map_cons,List.map_nil,hd,hs,hrun]
theorem ybp:(Tryz.prog.info? 5).map (fun i=>(i.size,i.zero,i.bytes))=some (1,some (.int .u8 0),1):=by kernel_rfl
theorem ydn (n:Nat):madeCells #[.int .u8 0] n=(U8 (List.replicate n 0)).toArray:=by
 apply Array.ext
 · simp [madeCells,U8]
 · intro i h1 h2
   simp [madeCells,U8,Nat.mod_one]
theorem make22 (w:World) (l c:Nat) (hlc:l≤c) (hc:c≤16777216):(Instr.makeSlice 29 (.int .i64 l) (.int .i64 c)).run Tryz.prog w = .ok (.slice (some ⟨w.heap.size,0,none⟩) l c) (w.alloc (.cells (U8 (List.replicate c 0)).toArray 5)):=by
 have h:=ybp;rw [Option.map_eq_some_iff] at h;obtain ⟨i,hi,he⟩:=h
 injection he with h1 h2
 injection h2 with h2 h3
 have hr:=run_make (P:=Tryz.prog) w 29 5 i (.int .u8 0) Tryz.underlying29 hi h2 .i64 .i64 l c (by omega) (by omega) (by rw [h3];omega) (by omega);rw [hr,h1,Nat.mul_one,Int.toNat_natCast,Int.toNat_natCast];rw [show (Value.int IntKind.u8 0).cells=#[.int .u8 0] from rfl,ydn]
theorem zxf {ρ : Operand→Value} {op:Oper} {x y:Operand} {l c:Nat} {w:World} (ho:op.op = .makeSlice 29 x y) (h1 : ρ x = .int .i64 (l:Nat)) (h2 : ρ y = .int .i64 (c:Nat)) (hlc:l≤c) (hc:c≤16777216) :
  (execOp ρ op).run Tryz.prog w = .ok (.value (.slice (some ⟨w.heap.size,0,none⟩) l c)) (w.alloc (.cells (U8 (List.replicate c 0)).toArray 5)):=by
 unfold execOp;simp only [ho,h1,h2,Sem.run_bind,make22 w l c hlc hc,Result.andThen_ok,Sem.run_pure]
theorem zw0:∃ i,Tryz.prog.info? 5=some i∧i.zero=some (.int .u8 0)∧i.size=1∧i.bytes=1:=by
 have h:=ybp;rw [Option.map_eq_some_iff] at h;obtain ⟨i,hi,he⟩:=h
 injection he with h1 h2
 injection h2 with h2 h3
 exact ⟨i,hi,h2,h1,h3⟩
theorem ztz (w:World) (row:Option Nat):w.grownBy w row:=⟨rfl,rfl,rfl,Nat.le_refl _,fun _ _ _=>rfl⟩
theorem zel {w:World} {ops:Array Oper} {rest:List Oper} {o:Oper} {a:Act} {Q:Exit→Act→World→Prop} (hgd:o.guard=none) (s x:Operand)
  (ho:o.op = .call { callee := .builtin .append,args:=#[s,x],argTypes:=#[29,29] }) (base:Nat) (v:Value) (n:Nat) (xs:List Int) (hs:a.eval s=v) (hown:w.ownsRow base 5 1 v n (U8 xs))
  (A:Option Addr) (m c:Nat) (ys:List Int) (hx:a.eval x = .slice A m c) (hB:Bs w w.heap.size A ys) (hm:ys.length=m) (hnil:A=none→m=0∧c=0) (hbound:n+m≤16777216) (hbase:base≤w.heap.size)
  (h:∀ v' w',w'.ownsRow base 5 1 v' (n+m) (U8 (xs++ys))→w.grownBy w' v.ownBlock→wpList Tryz.prog ops Q rest (a.put o.dst v') w'):wpList Tryz.prog ops Q (o::rest) a w:=by
 obtain ⟨i,hi,hz,hsz,hby⟩:=zw0
 cases A with
 | none =>
   obtain ⟨rfl,rfl⟩:=hnil rfl;obtain rfl:ys=[]:=List.eq_nil_of_length_eq_zero hm;refine wpList_append_own_none hgd s x 29 ho base 5 i 1 Tryz.underlying29 hi v n (U8 xs) hs hown hx ?_;refine h v w ?_ (ztz _ _);rw [List.append_nil];exact hown
 | some ad =>
   refine wpList_append_own w hgd s x 29 ho base 5 i (.int .u8 0) 1 1 Tryz.underlying29 hi hz hsz hby rfl (by decide) v n (U8 xs) hs hown ad m c (U8 ys) hx (by simp [U8,hm]) (fun j u hu => ?_) (fun u hu => ?_) (by unfold maxLen;omega) (by omega) hbase ?_
   · unfold U8 at hu
     rw [List.getElem?_map,Option.map_eq_some_iff] at hu;obtain ⟨y,hy,rfl⟩:=hu;have hj:j<ys.length:=(List.getElem?_eq_some_iff.1 hy).1;obtain ⟨ad',e,_,hc⟩:=hB (by omega)
     cases e
     exact hc j y hy
   · obtain ⟨y,_,rfl⟩:=List.mem_map.1 hu;rfl
   · intro v' w' h1 h2 _
     refine h v' w' ?_ h2;unfold U8 at h1 ⊢
     rwa [← List.map_append] at h1
theorem zgb {w:World} {base:Nat} {v:Value} {n:Nat} {xs:List Int} (h:w.ownsRow base 5 1 v n (U8 xs)):(convert 29 9 v).run Tryz.prog w = .ok (.string (strOfNums xs)) w:=by
 have hl:xs.length=n:=by have:=h.1;simpa [U8] using this
 rcases h.2 with ⟨rfl,rfl⟩|⟨g,cap,cur,rfl,hb,hg,hc,_,hs,ht⟩
 · obtain rfl:xs=[]:=List.eq_nil_of_length_eq_zero hl
   exact run_convert_bytes_nil w 29 5 Tryz.underlying29 Tryz.underlying5 0 0 9 Tryz.underlying9
 · refine run_convert_bytes_arg (P:=Tryz.prog) w 29 5 Tryz.underlying29 Tryz.underlying5 g 0 n cap xs hl (fun j hj => ?_) 9 Tryz.underlying9
   rw [Nat.zero_add,cell_of_row w g j cur 5 (0,0) hg]
   have h2:(cur.toList.take (n*1))[j]? = (U8 xs)[j]? := by rw [ht]
   rw [List.getElem?_take,if_pos (by omega),yb6 (getD_some (by omega))] at h2
   simpa using h2
theorem zb8 {w:World} {base:Nat} {e:TypeId} {size:Nat} {v:Value} {n:Nat} {xs:List Value} (h:w.ownsRow base e size v n xs):∀ k,v.ownBlock=some k→base≤k:=fun k hk=>by
 rcases h.2 with ⟨rfl,_⟩|⟨g,cap,cur,rfl,hb,_⟩
 · cases hk
 · simp [Value.ownBlock] at hk;omega
structure OX (w:World) (v:Value) (xs:List Int) (wr:World):Prop where
 o:wr.ownsRow w.heap.size 5 1 v xs.length (U8 xs)
 bw:Below w.heap.size w wr
theorem OX.nil (w:World):OX w (.slice none 0 0) [] w:=⟨World.ownsRow_nil _ _ _ _,Below.refl _ _⟩
theorem ybk (wr:World) (x:Int):Bs (wr.alloc (.cells #[.int .u8 x] 5)) (wr.alloc (.cells #[.int .u8 x] 5)).heap.size (some ⟨wr.heap.size,0,none⟩) [x]:=fun _=>⟨_,rfl,by simp,fun j y hy=>by
 rw [Addr.add_mid,Nat.zero_add]
 exact ((Row.new wr 5 (U8 [x])).cell j).trans (yb6 hy)⟩
theorem OX.push {w wr w1:World} {v v1:Value} {xs:List Int} {x:Int} (H:OX w v xs wr) (o1:w1.ownsRow w.heap.size 5 1 v1 (xs.length+1) (U8 (xs++[x]))) (hg:(wr.alloc (.cells #[.int .u8 x] 5)).grownBy w1 v.ownBlock):OX w v1 (xs++[x]) w1:=
 ⟨by simpa using o1,(H.bw.alloc H.bw.size _).grown hg (by have:=H.bw.size;simp;omega) (zb8 H.o)⟩
theorem ybl {ad:Addr} {p:Prop}:some ad=none→p:=fun h=>by cases h
theorem OX.base {w wr:World} {v:Value} {xs:List Int} (H:OX w v xs wr) (o:Obj):w.heap.size≤(wr.alloc o).heap.size:=by have:=H.bw.size;simp;omega
theorem zds {w wr:World} {ops:Array Oper} {rest:List Oper} {o:Oper} {a:Act} {Q:Exit→Act→World→Prop} (hgd:o.guard=none) (s x:Operand)
  (ho:o.op = .call { callee := .builtin .append,args:=#[s,x],argTypes:=#[29,29] }) (v:Value) (xs:List Int) (hs:a.eval s=v) (H:OX w v xs wr) (y:Int) (hx:a.eval x = .slice (some ⟨wr.heap.size,0,none⟩) 1 1) (hb:xs.length+1≤16777216)
  (h:∀ v' w' L,Hid (L=xs++[y])→L.length=xs.length+1→Hid (OX w v' L w')→wpList Tryz.prog ops Q rest (a.put o.dst v') w'):wpList Tryz.prog ops Q (o::rest) a (wr.alloc (.cells #[.int .u8 y] 5)):=
 zel hgd s x ho w.heap.size v xs.length xs hs (H.o.alloc _) (some ⟨wr.heap.size,0,none⟩) 1 1 [y] hx (ybk _ _) rfl ybl hb (H.base _) fun v' w' o1 g1=>h v' w' _ (kd rfl) (by simp) (kd (H.push o1 g1))

structure VX (T:TypeId) (sz:Nat) (w:World) (v:Value) (n:Nat) (cs:List Value) (wr:World):Prop where
 o:wr.ownsRow w.heap.size T sz v n cs
 bw:Below w.heap.size w wr
theorem VX.nil (T:TypeId) (sz:Nat) (w:World):VX T sz w (.slice none 0 0) 0 [] w:=⟨World.ownsRow_nil _ _ _ _,Below.refl _ _⟩
theorem VX.step {T:TypeId} {sz:Nat} {w wr w':World} {v:Value} {n:Nat} {cs:List Value} (H:VX T sz w v n cs wr) (hb:Below wr.heap.size wr w'):VX T sz w v n cs w':=by
 refine ⟨⟨H.o.1,?_⟩,H.bw.trans (hb.mono H.bw.size)⟩
 rcases H.o.2 with h0|⟨g,cap,cur,h1,h2,h3,h4⟩
 · exact .inl h0
 · exact .inr ⟨g,cap,cur,h1,h2,(hb.block g (lt_of_block h3)).trans h3,h4⟩
theorem VX.drewN {T:TypeId} {sz:Nat} {w wr:World} {v:Value} {n:Nat} {cs:List Value} (H:VX T sz w v n cs wr) (q:Nat):VX T sz w v n cs (wr.drewN q):=H.step ⟨rfl,rfl,rfl,Nat.le_refl _,fun _ _=>rfl⟩
theorem ziq {T ST:TypeId} {sz bytes:Nat} {z:Value} {w wr:World} {ops:Array Oper} {rest:List Oper} {o:Oper} {a:Act} {Q:Exit→Act→World→Prop} (hgd:o.guard=none) (s x:Operand)
  (ho:o.op = .call { callee := .builtin .append,args:=#[s,x],argTypes:=#[ST,ST] }) (hT:Tryz.prog.underlying ST=some (.slice T)) (hinfo:∃ i,Tryz.prog.info? T=some i∧i.zero=some z∧i.size=sz∧i.bytes=bytes) (hzs:z.cells.size=sz) (hpos:0<sz) (hby:bytes≤1000)
  (v:Value) (n:Nat) (xs:List Value) (hs:a.eval s=v) (H:VX T sz w v n xs wr) (cs:List Value) (hcs:cs.length=sz) (h1:∀ u∈cs,u.oneCell'=true) (hx:a.eval x = .slice (some ⟨wr.heap.size,0,none⟩) 1 1) (hb:n+1≤16777216)
  (h:∀ v' w',Hid (VX T sz w v' (n+1) (xs++cs) w')→wpList Tryz.prog ops Q rest (a.put o.dst v') w'):wpList Tryz.prog ops Q (o::rest) a (wr.alloc (.cells cs.toArray T)):=by
 obtain ⟨i,hi,hz,hsz,hbt⟩:=hinfo
 have hbase:w.heap.size≤(wr.alloc (.cells cs.toArray T)).heap.size:=by have:=H.bw.size;simp;omega
 refine wpList_append_own _ hgd s x ST ho w.heap.size T i z sz bytes hT hi hz hsz hbt hzs hpos v n xs hs (H.o.alloc _) ⟨wr.heap.size,0,none⟩ 1 1 cs hx (by rw [Nat.one_mul];exact hcs) (fun j u hu => ?_) h1 (by unfold maxLen;omega) ?_ hbase ?_
 · rw [Addr.add_mid,Nat.zero_add]
   exact ((Row.new wr T cs).cell j).trans hu
 · have:(n+1)*bytes≤16777216*1000:=Nat.mul_le_mul hb hby
   omega
 · intro v' w' h2 h3 _
   refine h v' w' (kd ⟨h2,(H.bw.alloc H.bw.size _).grown h3 hbase (zb8 H.o)⟩)
def pcs (ps:List (Nat × List Int)):List Value:=ps.flatMap fun p=>[.int .i64 (p.1:Int),.string (strOfNums p.2)]
theorem zy8 (ps:List (Nat × List Int)) (p:Nat × List Int):pcs (ps++[p])=pcs ps++[.int .i64 (p.1:Int),.string (strOfNums p.2)]:=by simp [pcs]
abbrev PX (w:World) (v:Value) (ps:List (Nat × List Int)) (wr:World):Prop:=VX 182 2 w v ps.length (pcs ps) wr
theorem infoP:∃ i,Tryz.prog.info? 182=some i∧i.zero=some (.agg #[.int .i64 0,.string ⟨#[]⟩])∧i.size=2∧i.bytes=24:=by
 have h:(Tryz.prog.info? 182).map (fun i=>(i.size,i.zero,i.bytes))=some (2,some (.agg #[.int .i64 0,.string ⟨#[]⟩]),24):=by kernel_rfl
 rw [Option.map_eq_some_iff] at h;obtain ⟨i,hi,he⟩:=h
 injection he with h1 h2
 injection h2 with h2 h3
 exact ⟨i,hi,h2,h1,h3⟩
theorem zir {w wr:World} {ops:Array Oper} {rest:List Oper} {o:Oper} {a:Act} {Q:Exit→Act→World→Prop} (hgd:o.guard=none) (s x:Operand)
  (ho:o.op = .call { callee := .builtin .append,args:=#[s,x],argTypes:=#[178,178] }) (v:Value) (ps:List (Nat × List Int)) (hs:a.eval s=v) (H:PX w v ps wr) (p:Nat × List Int) (hx:a.eval x = .slice (some ⟨wr.heap.size,0,none⟩) 1 1) (hb:ps.length+1≤16777216)
  (h:∀ v' w' L,Hid (L=ps++[p])→L.length=ps.length+1→Hid (PX w v' L w')→wpList Tryz.prog ops Q rest (a.put o.dst v') w'):wpList Tryz.prog ops Q (o::rest) a (wr.alloc (.cells #[.int .i64 (p.1:Int),.string (strOfNums p.2)] 182)):=
 ziq hgd s x ho Tryz.underlying178 infoP rfl (by omega) (by omega) v ps.length (pcs ps) hs H [.int .i64 (p.1:Int),.string (strOfNums p.2)] rfl (fun u hu=>by
  simp at hu
  rcases hu with rfl|rfl<;>rfl) hx hb fun v' w' h1=>h v' w' (ps++[p]) (kd rfl) (by simp) (kd (by
   have:=h1.out;unfold PX;rw [zy8,List.length_append]
   exact this))
theorem ztt:∃ i,Tryz.prog.info? 9=some i∧i.zero=some (.string ⟨#[]⟩)∧i.size=1∧i.bytes=16:=by
 have h:(Tryz.prog.info? 9).map (fun i=>(i.size,i.zero,i.bytes))=some (1,some (.string ⟨#[]⟩),16):=by kernel_rfl
 rw [Option.map_eq_some_iff] at h;obtain ⟨i,hi,he⟩:=h
 injection he with h1 h2
 injection h2 with h2 h3
 exact ⟨i,hi,h2,h1,h3⟩
structure Prm where
 n:List Int
 v:List Int
 h:Bool
 deriving DecidableEq
def prmC (p:Prm):List Value:=[.string (strOfNums p.n),.string (strOfNums p.v),.bool p.h]
def prms (ps:List Prm):List Value:=ps.flatMap prmC
abbrev RX (w:World) (v:Value) (ps:List Prm) (wr:World):Prop:=VX 155 3 w v ps.length (prms ps) wr
theorem zfg {α:Type} (f:α→List Value) (sz:Nat) (hf:∀ x,(f x).length=sz):∀ (l:List α) (k j:Nat) (x:α),l[k]? = some x→j<sz→(l.flatMap f)[k*sz+j]? = (f x)[j]?
 | [],k,j,x,h,_=>by cases h
 | y::l,0,j,x,h,hj=>by
   cases h
   rw [List.flatMap_cons,Nat.zero_mul,Nat.zero_add,List.getElem?_append_left (by rw [hf];exact hj)]
 | y::l,k+1,j,x,h,hj=>by
   rw [List.flatMap_cons,List.getElem?_append_right (by rw [hf,Nat.succ_mul];omega),hf,show (k+1)*sz+j - sz=k*sz+j by rw [Nat.succ_mul];omega];exact zfg f sz hf l k j x h hj
theorem VX.form {T:TypeId} {sz:Nat} {w wr:World} {v:Value} {n:Nat} {cs:List Value} (H:VX T sz w v n cs wr):(v = .slice none 0 0∧n=0∧cs=[])∨∃ g cap,v = .slice (some ⟨g,0,none⟩) n cap∧n≤cap∧w.heap.size≤g∧g<wr.heap.size∧∀ (j:Nat) u,cs[j]? = some u→wr.cell? ⟨g,j,none⟩=some u:=by
 have hl:=H.o.1
 rcases H.o.2 with ⟨rfl,rfl⟩|⟨g,cap,cur,rfl,hb,hg,hc,_,hs,ht⟩
 · exact .inl ⟨rfl,rfl,List.eq_nil_of_length_eq_zero (by simpa using hl)⟩
 · refine .inr ⟨g,cap,rfl,hc,hb,lt_of_block hg,fun j u hx => ?_⟩
   rw [cell_of_row wr g j cur T (0,0) hg];have hj:j<cs.length:=(List.getElem?_eq_some_iff.1 hx).1
   have h2:(cur.toList.take (n*sz))[j]? = cs[j]? := by rw [ht]
   rw [List.getElem?_take,if_pos (by omega),hx] at h2
   simpa using h2

theorem zga (sep:Int):∀ xs:List Int,(∀ p∈cutL sep xs,p.Sublist xs)∧(cutL sep xs).length≤xs.length+1
 | []=>⟨fun p hp=>by unfold cutL at hp;rw [List.mem_singleton] at hp;subst hp;exact List.Sublist.refl _,by unfold cutL;simp⟩
 | c::r=>by
   have ih:=zga sep r
   by_cases h:c=sep
   · subst h
     rw [zdi];refine ⟨fun p hp => ?_,by simp;exact ih.2⟩
     rcases List.mem_cons.1 hp with rfl|hp
     · exact List.nil_sublist _
     · exact (ih.1 p hp).cons _
   · rw [zdp _ _ _ h]
     cases hc:cutL sep r with
     | nil =>
       refine ⟨fun p hp => ?_,by simp [glue]⟩;unfold glue at hp;rw [List.mem_singleton] at hp;subst hp;exact (List.nil_sublist r).cons_cons c
     | cons q qs =>
       rw [hc] at ih;refine ⟨fun p hp => ?_,by have:=ih.2;simp [glue] at this ⊢;omega⟩;unfold glue at hp
       rcases List.mem_cons.1 hp with rfl|hp
       · exact (ih.1 q (by simp)).cons_cons c
       · exact (ih.1 p (by simp [hp])).cons _

def nq (nm xs:List Int):List Int:=nm++[61]++quoteL xs
theorem zhd (sep:List Int) (m:Nat):∀ l:List (List Int),(∀ p∈l,p.length≤m)→(zbj sep l).length≤l.length*(m+sep.length)
 | [],_=>by rw [zdy];simp
 | [x],h=>by rw [zc2];have:=h x (by simp);simp;omega
 | x::y::r,h=>by
   have ih:=zhd sep m (y::r) (fun p hp=>h p (by simp [hp]));have:=h x (by simp);rw [zch,List.length_append,List.length_append,List.length_cons,Nat.succ_mul];omega

theorem zao {a b c:World} (h:Below a.heap.size a b) (h2:Below b.heap.size b c):Below a.heap.size a c:=h.trans (h2.mono h.size)
theorem zcc {b:Nat}:∀ (us:List Value) (o:Nat) (w:World) (b':Nat),b'≠b→(w.setCells b o us).heap[b']? = w.heap[b']?
 | [],_,_,_,_=>rfl
 | u::us,o,w,b',h=>(zcc us (o+1) _ b' h).trans (Below.heap_setCell w ⟨b,o,none⟩ u b' h)
theorem zab {P:Program} {ops:Array Oper} {rest:List Oper} {op:Oper} {a:Act} {w:World} {Q:Exit→Act→World→Prop} (hgd:op.guard=none) (ty:TypeId) (x:Operand) (ho:op.op = .load ty x) {b:Nat} {T:TypeId} {cs:List Value} (hr:Row w b T cs)
  (hx:a.eval x = .pointer (some ⟨b,0,none⟩)) {d:TypeDesc} (hu:P.underlying ty=some d) (hd:d.isRow=true) (hi:(P.info? ty).map (·.size)=some cs.length)
  (h:wpList P ops Q rest (a.put op.dst (.agg cs.toArray)) w):wpList P ops Q (op::rest) a w:=
 wpList_load_mid hgd ty x ho b 0 hx cs d hr.range hu hd hi h
theorem zbx {P:Program} {ops:Array Oper} {rest:List Oper} {op:Oper} {a:Act} {W0 w:World} {Q:Exit→Act→World→Prop} (hgd:op.guard=none) (ty:TypeId) (x y:Operand) (ho:op.op = .store ty x y) {b:Nat} {T:TypeId} {vs:List Value} (hr:Row w b T vs) (us:List Value)
  (hx:a.eval x = .pointer (some ⟨b,0,none⟩)) (hy:a.eval y = .agg us.toArray) (hl:vs.length=us.length) (hi:(P.info? ty).map (·.size)=some us.length) (h1:∀ u∈us,u.oneCell'=true) (hbw:Below W0.heap.size W0 w) (hb:W0.heap.size≤b)
  (h:∀ w',Hid (Row w' b T us)→Hid (Below W0.heap.size W0 w')→Hid (w'.heap.size=w.heap.size∧∀ b',b'≠b→w'.heap[b']? = w.heap[b']?)→wpList P ops Q rest (a.put op.dst undef) w'):wpList P ops Q (op::rest) a w:=by
 have hz:us.toArray.size=us.length:=by simp
 refine wpList_store_mid hgd ty x y ho b 0 us.toArray hx hy (by rw [hz,← hl];exact hr.there) (by rw [hz];exact hi) (all_oneCell_toArray h1) ?_;refine h _ (kd (hr.setAll us hl)) (kd (zbs hb us 0 _ hbw)) (kd ⟨?_,fun b' hb'=>zcc us 0 w b' hb'⟩)
 have hsz:∀ (us:List Value) (o:Nat) (w:World),(w.setCells b o us).heap.size=w.heap.size:=by
  intro us
  induction us with
  | nil=>intro o w;rfl
  | cons u us ih=>intro o w;exact (ih (o+1) _).trans (by simp [World.setCell])
 exact hsz us 0 w
theorem zdv {fn:Func} {t:Tmp} {ty:TypeId} (h:fn.results=#[.cell t ty]) (tmps:Array Value) (P:Program) (w:World) (b:Nat) (cs:List Value) (d:TypeDesc)
  (ht:tmps.getD t undef = .pointer (some ⟨b,0,none⟩)) (hc:w.rangeAt b 0 cs) (hu:P.underlying ty=some d) (hd:d.isRow=true) (hi:(P.info? ty).map (·.size)=some cs.length) :
  (results fn tmps).run P w = .ok (.agg cs.toArray) w:=by
 have hl:=run_loadVar_mid (P:=P) w b 0 ty cs d hc hu hd hi;simp only [results,h];simp [-Array.getD_eq_getD_getElem?,ht,asAddr,hl]
theorem zah {fn:Func} {t u:Tmp} {ty:TypeId} (h:fn.results=#[.cell t ty,.tmp u]) (tmps:Array Value) (P:Program) (w:World) (b:Nat) (cs:List Value) (d:TypeDesc)
  (ht:tmps.getD t undef = .pointer (some ⟨b,0,none⟩)) (hc:w.rangeAt b 0 cs) (hu:P.underlying ty=some d) (hd:d.isRow=true) (hi:(P.info? ty).map (·.size)=some cs.length) :
  (results fn tmps).run P w = .ok (.tuple #[.agg cs.toArray,tmps.getD u undef]) w:=by
 have hl:=run_loadVar_mid (P:=P) w b 0 ty cs d hc hu hd hi;simp only [results,h];simp [-Array.getD_eq_getD_getElem?,ht,asAddr,hl]
theorem Row.heap {w w':World} {b:Nat} {T:TypeId} {vs:List Value} (h:Row w b T vs) (he:w'.heap[b]? = w.heap[b]?):Row w' b T vs:=he.trans h
theorem VX.other {T:TypeId} {sz:Nat} {w wr w':World} {v:Value} {n:Nat} {cs:List Value} (H:VX T sz w v n cs wr) (hb:Below w.heap.size w w') (hk:∀ g,v.ownBlock=some g→w'.heap[g]? = wr.heap[g]?):VX T sz w v n cs w':=by
 refine ⟨⟨H.o.1,?_⟩,hb⟩
 rcases H.o.2 with h0|⟨g,cap,cur,h1,h2,h3,h4⟩
 · exact .inl h0
 · exact .inr ⟨g,cap,cur,h1,h2,(hk g (by rw [h1];rfl)).trans h3,h4⟩

def hexC (n:Int):Int:=if n<10 then 48+n else 87+n
def hexP (b:Int):List Int:=[hexC (b / 16),hexC (b % 16)]
def hexL (bs:List Int):List Int:=bs.flatMap hexP
def digOk (c:Int):Bool:=decide (48≤c∧c≤57) || (decide (97≤c∧c≤102) || decide (65≤c∧c≤70))
def digV (c:Int):Int:=if 48≤c∧c≤57 then c - 48 else if 97≤c∧c≤102 then c - 87 else if 65≤c∧c≤70 then c - 55 else 0
structure HX (w:World) (bs:List Int) (m k:Nat) (wr:World):Prop where
 r:Row wr w.heap.size 5 (U8 (hexL (bs.take k)++List.replicate (2*(m - k)) 0))
 bw:Below w.heap.size w wr
theorem i5:∃ i,Tryz.prog.info? 5=some i∧i.size=1:=by
 obtain ⟨i,h1,_,h2,_⟩:=zw0;exact ⟨i,h1,h2⟩
theorem and15 (c:Int) (h0:0≤c) (h1:c<256):bits .and .u8 c 15=c % 16:=by
 obtain ⟨k,rfl⟩:=Int.eq_ofNat_of_zero_le h0
 have h:∀ k:Fin 256,bits .and .u8 (k.val:Int) 15=(k.val:Int) % 16:=by decide +kernel
 exact h ⟨k,by omega⟩
end Go.Proofs.YtfnmkedncfdceaaGreatDoor
