/- A range over an iterator that keeps its place in a cell of its own: the law, for loops that are no round themselves. And what stands behind it. -/
import Derived.Test.YtfnmkedncfdceaaGreatDoorBi
import Derived.RangeFuncNested
import Derived.RangeFuncBound
import Derived.RangeFuncCalls
import Derived.RangeFuncLeaves
import Derived.Shelf.Abstract
import Derived.Shelf.RegionOpen
import Derived.OwnWalkIn
import Derived.TacticsInMore
import Derived.LoopNIn
import Derived.LoopIn
set_option linter.unusedVariables false
set_option linter.unusedSimpArgs false
set_option maxRecDepth 100000
set_option maxHeartbeats 8000000
namespace Go.Proofs.YtfnmkedncfdceaaGreatDoor
open Go.RowKit Go.Shelf

def zg1 (b:Nat) (W W':World):Prop := ∀ k,b≤k→k<b+3→W'.heap[k]? = W.heap[k]?
theorem zg1.trans {b:Nat} {X Y Z:World} (h:zg1 b X Y) (k:zg1 b Y Z):zg1 b X Z:=fun i h1 h2=>(k i h1 h2).trans (h i h1 h2)
theorem zg1.put {b l:Nat} {W:World} {o:Obj} (h:b+3≤l):zg1 b W (W.putObj l o):=fun k _ h2=>World.putObj_heap_other (by omega)
theorem zkj {W:World} {b k:Nat} {v:Value} (h:k≠b):(W.setCell ⟨b,0,none⟩ v).heap[k]? = W.heap[k]? := Below.heap_setCell W _ v k h
section
variable {α : Type} {n : Nat} {P : Program}
def SeqC (n:Nat) (P:Program) (g:Nat) (lb:Array Value) (encs:α→Array Value) (b0 Bs:Nat) (S Sp:List α→Prop) (N:Nat) (W0:World):Prop:=
 ∀ (l:Nat) (J Jx:List α→World→Prop) (W:World),(∀ s X v,J s X→J s (X.setCell ⟨Bs,0,none⟩ v))→(∀ s X v,Jx s X→Jx s (X.setCell ⟨Bs,0,none⟩ v))→Below W0.heap.size W0 W →
  (∀ pre x W1,J pre W1→pre.length<N→YieldAt Fence.wide (n - 1) P l (encs x) W1 fun e W' =>
    (e = .returned (.bool true)∧J (pre++[x]) W'∧zg1 b0 W1 W')∨(e = .returned (.bool false)∧Jx (pre++[x]) W')) →
  J [] W →
  CallsIn Fence.wide n P g (#[.func (.yield l) #[] #[]]++lb) W fun e W'=>(∃ v,e = .returned v)∧((∃ xs,S xs∧J xs W')∨(∃ pre,Sp pre∧Jx pre W'))
theorem ydd {g:Operand} {ps:Array Tmp} {assign body:Code} {Q:Exit→Act→World→Prop} {a:Act} {w:World} (hn:1≤n) {gf:Nat} {lb:Array Value}
  (hg:a.eval g = .func (.func gf) #[] lb) (eg:∀ args w,(callFunc gf args).run P w = .ok (.enter gf args) w) {encs:α→Array Value} {b0 Bs:Nat} {S Sp:List α→Prop} {N:Nat}
  (hseq:SeqC (n - 1) P gf lb encs b0 Bs S Sp N w) (h3:b0+3≤w.heap.size) (hBs:Bs<w.heap.size) (hps:∀ x,(encs x).size=ps.size)
  (I:List α→World→Prop) (Ix:Code→List α→World→Prop) (hI:OwnFrom w.heap.size I) (hIx:∀ c,OwnFrom w.heap.size (Ix c))
  (hIB:∀ s X v,I s X→I s (X.setCell ⟨Bs,0,none⟩ v)) (hIxB:∀ c s X v,Ix c s X→Ix c s (X.setCell ⟨Bs,0,none⟩ v)) (h0:I [] w) (a₁ : α→Act)
  (hassign:∀ (l:Nat) (x:α) (W:World) (K:Act→World→Prop),K (a₁ x) W →
    assign.wpIn (Fence.wide.inRound l) (n - 1 - 1) P (Exit.then K (fun _ _ _=>False)) { tmps:=(ps.zip (encs x)).foldl (fun t (p,v)=>t.setIfInBounds p v) a.tmps,defers:=[] } W)
  (hbody:∀ (l:Nat) (pre:List α) (x:α) (W:World),w.heap.size≤l→I pre W→pre.length<N→body.wpIn (Fence.wide.inRound l) (n - 1 - 1) P (ownPostG w.heap.size (zg1 b0) I Ix (pre++[x]) W) (a₁ x) W)
  (hdone:∀ (D:Nat) (xs:List α) (W:World),w.heap.size≤D→S xs→I xs W→W.heap[D]? = some (.deferred (some []))→Q .normal { a with defers:={ target := .collected D,args:=#[] }::a.defers } W)
  (hstop:∀ (D:Nat) (c:Code) (pre:List α) (W:World),w.heap.size≤D→Sp pre→Ix c pre W→W.heap[D]? = some (.deferred (some []))→c.wpIn Fence.wide n P Q { a with defers:={ target := .collected D,args:=#[] }::a.defers } W) :
  (Code.rangeFunc g ps assign body).wpIn Fence.wide n P Q a w:=by
 refine wpIn_rangeFunc fun fn hfn => ?_;rw [show Fence.wide.round=none from rfl];obtain ⟨R,hR⟩:∃ R:LoopState→Option Code→Loop,R=fun st pe=>{ state:=st,pending:=pe,fn,tmps:=a.tmps,params:=ps,assign,body,defers:=w.heap.size }:=⟨_,rfl⟩
 obtain ⟨V,hV⟩:∃ V,(w.alloc (.deferred (some []))).alloc (.loop (R .ready none))=V:=⟨_,rfl⟩
 have vl:V.heap[w.heap.size+1]? = some (.loop (R .ready none)):=by
  have h:=World.alloc_heap_new (w.alloc (.deferred (some []))) (.loop (R .ready none));rw [World.size_alloc,hV] at h;exact h
 have vd:V.heap[w.heap.size]? = some (.deferred (some [])):=by
  rw [← hV];exact (Below.heap_alloc _ _ _ (by simp)).trans (World.alloc_heap_new w _)
 have vI:I [] V:=by rw [← hV];exact hI.alloc _ (hI.alloc _ h0)
 have vb:Below w.heap.size w V:=by rw [← hV];exact ((Below.refl _ w).alloc zNr _).alloc (by simp) _
 refine ⟨w.heap.size+1,[{ target := .collected w.heap.size,args:=#[] }],V,{ target := .fn (.func gf) lb,args:=#[.func (.yield (w.heap.size+1)) #[] #[]] },V,gf,
  #[.func (.yield (w.heap.size+1)) #[] #[]]++lb,V,?_,?_,(fun f' _=>trivial),?_,(fun _=>hn),?_⟩
 · rw [← hV,hR];exact run_enterLoop_outer _ _ _ _ _
 · simp only [resolve,hg]
   simp [go_sem]
 · simp [invoke,go_sem,eg]
 have cell2:∀ {X:World} {v:Value} {k:Nat} {o:Obj},w.heap.size≤k→X.heap[k]? = some o→(X.setCell ⟨Bs,0,none⟩ v).heap[k]? = some o:=fun hk h=>(zkj (by omega)).trans h
 refine (hseq (w.heap.size+1)
  (fun pre W=>I pre W∧W.heap[w.heap.size+1]? = some (.loop (R .ready none))∧W.heap[w.heap.size]? = some (.deferred (some [])))
  (fun pre W => ∃ c,Ix c pre W∧W.heap[w.heap.size+1]? = some (.loop (R .done (some c)))∧W.heap[w.heap.size]? = some (.deferred (some [])))
  V (fun s X v h=>⟨hIB s X v h.1,cell2 (by omega) h.2.1,cell2 zNr h.2.2⟩)
  (fun s X v h=>by
    obtain ⟨c,h1,h2,h4⟩:=h
    exact ⟨c,hIxB c s X v h1,cell2 (by omega) h2,cell2 zNr h4⟩) vb ?_ ⟨vI,vl,vd⟩).mono ?_
 · rintro pre x W ⟨hi,hl,hd⟩ hlen
   have hlt:w.heap.size+1<W.heap.size:=(Array.getElem?_eq_some_iff.1 hl).1;have hy:=run_yield (P:=P) (args:=encs x) hl (by rw [hR];exact hps x);rw [hR] at hy;refine ⟨fn,_,assign,body,hy,roundIn_of_wpIn hfn (hassign _ x W _ ?_)⟩;clear hy
   refine ⟨_,run_beginRound hl (by rw [hR]),?_⟩;have bl:(W.putObj (w.heap.size+1) (.loop { R .ready none with state := .busy })).heap[w.heap.size+1]? = some (.loop { R .ready none with state := .busy }):=World.putObj_heap_same hlt
   have bd:(W.putObj (w.heap.size+1) (.loop { R .ready none with state := .busy })).heap[w.heap.size]? = some (.deferred (some [])):=(World.putObj_heap_other (by omega)).trans hd;have bk:zg1 b0 W (W.putObj (w.heap.size+1) (.loop { R .ready none with state := .busy })):=zg1.put (by omega)
   refine wpIn_mono (hbody _ pre x _ (by omega) (hI.putObj _ hi (by omega) hl rfl) hlen) ?_
   have out:∀ (jump:Option Code) (X:World),KeepsFrom w.heap.size (W.putObj (w.heap.size+1) (.loop { R .ready none with state := .busy })) X →
     (Instr.endRound (w.heap.size+1) jump).run P X = .ok (.bool jump.isNone) (X.putObj (w.heap.size+1) (.loop (R (if jump.isNone then .ready else .done) jump))) ∧
     X.heap[w.heap.size+1]? = some (.loop { R .ready none with state := .busy }) ∧
     (X.putObj (w.heap.size+1) (.loop (R (if jump.isNone then .ready else .done) jump))).heap[w.heap.size+1]? = some (.loop (R (if jump.isNone then .ready else .done) jump)) ∧
     (X.putObj (w.heap.size+1) (.loop (R (if jump.isNone then .ready else .done) jump))).heap[w.heap.size]? = some (.deferred (some [])):=fun jump X hk=>by
    have xl:=hk.same _ _ (by omega) bl rfl;have h:=run_endRound (P:=P) jump xl;rw [hR] at h xl ⊢;exact ⟨h,xl,World.putObj_heap_same (Array.getElem?_eq_some_iff.1 xl).1,(World.putObj_heap_other (by omega)).trans (hk.same _ _ zNr bd rfl)⟩
   rintro e a3 X hp
   cases e with
   | normal =>
     obtain ⟨hk,hs,hi3⟩:=hp;obtain ⟨hr,xl,yl,yd⟩:=out none X hk;exact ⟨_,_,hr,.inl ⟨rfl,⟨hI.putObj _ hi3 (by omega) xl rfl,yl,yd⟩,(bk.trans hs).trans (zg1.put (by omega))⟩⟩
   | ret =>
     obtain ⟨hk,hi3⟩:=hp;obtain ⟨hr,xl,yl,yd⟩:=out (some .ret) X hk;exact ⟨_,_,hr,.inr ⟨rfl,.ret,(hIx _).putObj _ hi3 (by omega) xl rfl,yl,yd⟩⟩
   | exit id =>
     obtain ⟨hk,hi3⟩:=hp;obtain ⟨hr,xl,yl,yd⟩:=out (some (.exit id)) X hk;exact ⟨_,_,hr,.inr ⟨rfl,.exit id,(hIx _).putObj _ hi3 (by omega) xl rfl,yl,yd⟩⟩
   | goto t =>
     obtain ⟨hk,hi3⟩:=hp;obtain ⟨hr,xl,yl,yd⟩:=out (some (.goto t)) X hk;exact ⟨_,_,hr,.inr ⟨rfl,.goto t,(hIx _).putObj _ hi3 (by omega) xl rfl,yl,yd⟩⟩
   | panic ch=>exact hp.elim
   | outgrown=>exact hp.elim
 · rintro e X ⟨⟨v,rfl⟩,(⟨xs,hS,hi,hl,hd⟩|⟨pre,hSp,c,hi,hl,hd⟩)⟩
   · exact ⟨none,_,by have h:=run_endLoop (P:=P) hl (by rw [hR];simp);rw [hR] at h;exact h,hdone _ xs _ zNr hS (hI.putObj _ hi (by omega) hl rfl) ((World.putObj_heap_other (by omega)).trans hd)⟩
   · exact ⟨some c,_,by have h:=run_endLoop (P:=P) hl (by rw [hR];simp);rw [hR] at h;exact h,hstop _ c pre _ zNr hSp ((hIx c).putObj _ hi (by omega) hl rfl) ((World.putObj_heap_other (by omega)).trans hd)⟩
end

attribute [local go_sem] Oper.semAt_some
theorem yao {c:Int} {xs:List Int} (h:xs.length≤zag (fun x=>x != c) xs 0):cutL c xs=[xs]:=by
 induction xs with
 | nil=>rfl
 | cons a r ih =>
   unfold zag at h ih;rw [List.drop_zero,Nat.zero_add] at h ih;rw [List.takeWhile_cons] at h
   by_cases ha:a=c
   · subst ha;simp at h
   · rw [if_pos (by simpa using ha),List.length_cons,List.length_cons] at h
     rw [zdp c a r ha,ih (by omega)];rfl
theorem cut_at {c:Int} {xs:List Int} {i:Nat} (hi:zag (fun x=>x != c) xs 0=i) (h:i<xs.length):cutL c xs=xs.take i::cutL c (xs.drop (i+1)):=by
 induction xs generalizing i with
 | nil=>simp at h
 | cons a r ih =>
   unfold zag at hi ih;rw [List.drop_zero,Nat.zero_add] at hi;rw [List.takeWhile_cons] at hi
   by_cases ha:a=c
   · subst ha
     rw [if_neg (by simp)] at hi;simp at hi;subst hi;rw [zdi];rfl
   · rw [if_pos (by simpa using ha),List.length_cons] at hi
     cases i with
     | zero=>omega
     | succ j =>
       rw [List.length_cons] at h;rw [zdp c a r ha,ih (i:=j) (by rw [List.drop_zero,Nat.zero_add];omega) (by omega)]
       rfl
theorem zpu (s sep:ByteArray) (w:World) :
  Calls Tryz.prog 227 #[.string s,.string sep] w fun e w'=>e = .returned (.func (.func 305) #[] #[.pointer (some ⟨w.heap.size+1,0,none⟩),.pointer (some ⟨w.heap.size,0,none⟩),.pointer (some ⟨w.heap.size+1+1,0,none⟩)])∧w'=((w.alloc (.cells #[.string s] 9)).alloc (.cells #[.string sep] 9)).alloc (.cells #[.int .i64 0] 3):=by
 have SQ:∀ w:World,Calls Tryz.prog 285 #[.string s,.string sep,.int .i64 0] w fun e w'=>e = .returned (.func (.func 305) #[] #[.pointer (some ⟨w.heap.size+1,0,none⟩),.pointer (some ⟨w.heap.size,0,none⟩),.pointer (some ⟨w.heap.size+1+1,0,none⟩)])∧w'=((w.alloc (.cells #[.string s] 9)).alloc (.cells #[.string sep] 9)).alloc (.cells #[.int .i64 0] 3):=fun w=>by
  go_enter Tryz.func285,Tryz.ntmps285
  go_wp2_with fail;go_ret;exact ⟨rfl,rfl⟩
 go_enter Tryz.func227,Tryz.ntmps227
 go_wp2_with fail;refine (SQ _).mono ?_;rintro e w' ⟨rfl,rfl⟩;go_wp2_with fail;go_ret;exact ⟨rfl,rfl⟩
def zvt (w:World) (b:Nat):Nat:=match w.cell? ⟨b,0,none⟩ with
 | some (.string t)=>t.size
 | _=>0
theorem zlp {w:World} {b:Nat} {T:TypeId} {t:ByteArray} (h:Row w b T [.string t]):zvt w b=t.size:=by
 unfold zvt;rw [h.cell 0];rfl
theorem zg1.row {b k:Nat} {W W':World} {T:TypeId} {vs:List Value} (h:zg1 b W W') (h1:b≤k) (h2:k<b+3) (hr:Row W k T vs):Row W' k T vs:=(h k h1 h2).trans hr
theorem zvi (n:Nat) (hn:1≤n) (r b0:Nat) (s:ByteArray) (hs:s.size≤4000000) (J Jx:List ByteArray→World→Prop)
  (hJ:∀ s X v,J s X→J s (X.setCell ⟨b0,0,none⟩ v))
  (hY:∀ pre x W1,J pre W1→pre.length<(cutL 46 (zaa s)).length→YieldAt Fence.wide (n - 1) Tryz.prog r #[.string x] W1 fun e W' =>
    (e = .returned (.bool true)∧J (pre++[x]) W'∧zg1 b0 W1 W')∨(e = .returned (.bool false)∧Jx (pre++[x]) W'))
  (W:World) (hc0:Row W b0 9 [.string s]) (hc1:Row W (b0+1) 9 [.string ⟨#[46]⟩]) (hc2:Row W (b0+1+1) 3 [.int .i64 0]) (h0:J [] W) :
  CallsIn Fence.wide n Tryz.prog 305 #[.func (.yield r) #[] #[],.pointer (some ⟨b0+1,0,none⟩),.pointer (some ⟨b0,0,none⟩),.pointer (some ⟨b0+1+1,0,none⟩)] W fun e W'=>(∃ v,e = .returned v) ∧
   ((∃ ys:List ByteArray,ys.map zaa=cutL 46 (zaa s)∧J ys W')∨(∃ pre:List ByteArray,(∃ suf,pre.map zaa++suf=cutL 46 (zaa s))∧Jx pre W')):=by
 refine callsIn_of_wp Tryz.func305 rfl trivial ?_ rfl;simp only [Tryz.ntmps305,List.size_toArray,List.length_cons,List.length_nil,Nat.reduceAdd,Nat.reduceSub,Array.replicate_succ,Array.replicate_zero,List.push_toArray,List.append_toArray,List.nil_append,List.cons_append]
 have k1:W.cell? ⟨b0+1,0,none⟩=some (.string ⟨#[46]⟩):=hc1.cell 0
 gi_wp2
 clear k1
 gi_loopw [7] (fun i wr => ∃ (pre:List ByteArray) (t:ByteArray),pre.map zaa++cutL 46 (zaa t)=cutL 46 (zaa s)∧t.size≤s.size∧Hid (Row wr b0 9 [.string t])∧Hid (Row wr (b0+1) 9 [.string ⟨#[46]⟩])∧Hid (Row wr (b0+1+1) 3 [.int .i64 0])∧J pre wr) (fun i wr=>zvt wr b0)
 case atStart=>exact ⟨[],s,rfl,Nat.le_refl _,kd hc0,kd hc1,kd hc2,h0⟩
 case round =>
  obtain ⟨pre,t,hp,ht,R0,R1,R2,hj⟩:=hrel;have c0:wr.cell? ⟨b0,0,none⟩=some (.string t):=R0.out.cell 0;have c1:wr.cell? ⟨b0+1,0,none⟩=some (.string ⟨#[46]⟩):=R1.out.cell 0;have c2:wr.cell? ⟨b0+1+1,0,none⟩=some (.int .i64 0):=R2.out.cell 0
  have IX:=kd (ztw t 46 wr);rw [show (((46:UInt8)).toNat:Int)=46 from rfl] at IX;have TL:=zac t;obtain ⟨i,hi⟩:∃ i,zag (fun x=>x != (46:Int)) (zaa t) 0=i:=⟨_,rfl⟩;rw [hi] at IX
  by_cases hlt:i<t.size
  · have hcut:=cut_at hi (by rw [TL];exact hlt)
    have hlen:pre.length<(cutL 46 (zaa s)).length:=by
     rw [← hp,hcut,List.length_append,List.length_map,List.length_cons];omega
    rw [if_neg (by omega)] at IX;obtain ⟨fn,tmps,assign,body,hy,hR⟩:=hY pre (t.extract 0 i) wr hj hlen
    have i0:(0:Int)≤(i:Int):=by omega
    have i1:(i:Int)≤(t.size:Int):=by omega
    have i2:(i:Int)+1≤(t.size:Int):=by omega
    have i3:t.size≤4000000:=by omega
    gi_wp2_with (refine ⟨trivial,?_⟩;gi_at_call 221;refine (callsIn_wide.2 IX.out).mono ?_;rintro e w' ⟨rfl,rfl⟩)
    refine hR.mono ?_;rintro e W3 (⟨rfl,hJ3,hk3⟩|⟨rfl,hJx3⟩)
    · have S0:=hk3.row zNr (by omega) R0.out
      have S1:=kd (hk3.row (by omega) (by omega) R1.out);have S2:=kd (hk3.row (by omega) (by omega) R2.out);have d0:W3.cell? ⟨b0,0,none⟩=some (.string t):=S0.cell 0;have f0:=S0.frozen 0;have d1:W3.cell? ⟨b0+1,0,none⟩=some (.string ⟨#[46]⟩):=S1.out.cell 0
      have SZ:(t.extract (i+1) t.size).size=t.size - (i+1):=by rw [← zac,zar,List.length_take,List.length_drop,TL];omega
      have N0:=kd (show Row (W3.setCell ⟨b0,0,none⟩ (.string (t.extract (i+1) t.size))) b0 9 [.string (t.extract (i+1) t.size)] from S0.set 0 _);have N1:=kd (S1.out.setOther (p:=b0) (i:=0) (by omega) (.string (t.extract (i+1) t.size)))
      have N2:=kd (S2.out.setOther (p:=b0) (i:=0) (by omega) (.string (t.extract (i+1) t.size)));have MS:=kd (zlp R0.out);have MT:=kd (zlp N0.out)
      have EQ:=kd (show (pre++[t.extract 0 i]).map zaa++cutL 46 (zaa (t.extract (i+1) t.size))=cutL 46 (zaa s) by
       rw [← hp,hcut,List.map_append,List.append_assoc]
       congr 1
       rw [List.map_cons,List.map_nil,List.singleton_append,zar,zar,List.drop_zero,Nat.sub_zero]
       congr 2
       rw [List.take_of_length_le]
       rw [List.length_drop,TL];omega)
      have JN:=hJ _ _ (.string (t.extract (i+1) t.size)) hJ3;clear S0 S1 S2 R0 R1 R2 c0 c1 c2 hJ3 hk3 hR hy IX hcut hp
      gi_wp2
      go_roundw
      case rel=>exact ⟨pre++[t.extract 0 i],t.extract (i+1) t.size,EQ.out,by omega,N0,N1,N2,JN⟩
      case measure=>rw [MS.out,MT.out,SZ];omega
    · have EQ:=kd (show (pre++[t.extract 0 i]).map zaa++cutL 46 ((zaa t).drop (i+1))=cutL 46 (zaa s) by
       rw [← hp,hcut,List.map_append,List.append_assoc]
       congr 1
       rw [List.map_cons,List.map_nil,List.singleton_append,zar,List.drop_zero,Nat.sub_zero])
      clear hR hy IX hcut hp
      gi_wp2
      refine bodyPost_ret (results_none rfl _ _ _) rfl ?_;exact ⟨⟨_,rfl⟩,.inr ⟨pre++[t.extract 0 i],⟨_,EQ.out⟩,hJx3⟩⟩
  · have hcut:=yao (c:=46) (xs:=zaa t) (by rw [hi,TL];omega)
    have hlen:pre.length<(cutL 46 (zaa s)).length:=by
     rw [← hp,hcut,List.length_append,List.length_map];simp
    rw [if_pos (by omega)] at IX;have EQ:=kd (show (pre++[t]).map zaa=cutL 46 (zaa s) by rw [← hp,hcut,List.map_append];rfl);obtain ⟨fn,tmps,assign,body,hy,hR⟩:=hY pre t wr hj hlen
    gi_wp2_with (refine ⟨trivial,?_⟩;gi_at_call 221;refine (callsIn_wide.2 IX.out).mono ?_;rintro e w' ⟨rfl,rfl⟩)
    refine hR.mono ?_;rintro e W3 (⟨rfl,hJ3,hk3⟩|⟨rfl,hJx3⟩)
    · clear hR hy IX hcut hp
      gi_wp2
      go_end0
      exact ⟨⟨_,rfl⟩,.inl ⟨pre++[t],EQ.out,hJ3⟩⟩
    · clear hR hy IX hcut hp
      gi_wp2
      go_end0
      exact ⟨⟨_,rfl⟩,.inr ⟨pre++[t],⟨[],by rw [List.append_nil];exact EQ.out⟩,hJx3⟩⟩
theorem zsw (n:Nat) (hn:1≤n) (b0:Nat) (s:ByteArray) (hs:s.size≤4000000) (W0:World) (hc0:Row W0 b0 9 [.string s]) (hc1:Row W0 (b0+1) 9 [.string ⟨#[46]⟩]) (hc2:Row W0 (b0+1+1) 3 [.int .i64 0]) :
  SeqC n Tryz.prog 305 #[.pointer (some ⟨b0+1,0,none⟩),.pointer (some ⟨b0,0,none⟩),.pointer (some ⟨b0+1+1,0,none⟩)] (fun (x:ByteArray)=>#[.string x]) b0 b0
   (fun ys=>ys.map zaa=cutL 46 (zaa s)) (fun pre => ∃ suf,pre.map zaa++suf=cutL 46 (zaa s)) (cutL 46 (zaa s)).length W0:=fun r J Jx W hJ _ hW hY h0 =>
 zvi n hn r b0 s hs J Jx hJ hY W (hc0.below hW) (hc1.below hW) (hc2.below hW) h0

attribute [local go_sem] Oper.semAt_some
theorem zlw {n:Nat} {fn:Func} {a:Act} {w:World} {v:Value} {R:Ending→World→Prop} (hr:(results fn a.tmps).run Tryz.prog w = .ok v w) (hd:a.defers=[]) (hR:R (.returned v) w):bodyPostM Fence.wide n Tryz.prog fn R .ret a w:=by
 show LeavesInM Fence.wide n Tryz.prog fn a.tmps R a.defers .returning w;rw [hd];exact ⟨v,hr,hR⟩
theorem zlv {n D:Nat} {fn:Func} {a:Act} {w:World} {v:Value} {R:Ending→World→Prop} (hd:a.defers=[{ target := .collected D,args:=#[] }]) (hD:w.heap[D]? = some (.deferred (some [])))
  (hr:(results fn a.tmps).run Tryz.prog (w.putObj D (.deferred none)) = .ok v (w.putObj D (.deferred none))) (hR:R (.returned v) (w.putObj D (.deferred none))):bodyPostM Fence.wide n Tryz.prog fn R .ret a w:=by
 show LeavesInM Fence.wide n Tryz.prog fn a.tmps R a.defers .returning w;rw [hd];exact ⟨by simp,.inl ⟨_,_,rfl,run_takeDeferred hD,⟨v,hr,hR⟩⟩⟩
theorem zvr {β : Type} (b:Nat) (T:TypeId) (f : β → List Value):Own (fun s W=>Row W b T (f s)):=fun s X Y row hs hg hrow =>
 (hg.block b hs.lt (fun e=>by obtain ⟨o,ho,hc⟩:=hrow b e.symm;rw [show X.heap[b]? = _ from hs] at ho;cases ho;cases hc)).trans hs
theorem zpe {N l:Nat} {w X:World} (h:Below N w X) (hl:N≤l) (o:Obj):Below N w (X.putObj l o):=⟨h.os,h.tape,h.output,by rw [World.putObj_size];exact h.size,fun k hk=>(World.putObj_heap_other (by omega)).trans (h.block k hk)⟩
theorem ybg {w:World} {b D:Nat} {T:TypeId} {vs:List Value} {ds:Option (List Deferred)} {o:Obj} (h:Row w b T vs) (hD:w.heap[D]? = some (.deferred ds)):Row (w.putObj D o) b T vs:=
 (World.putObj_heap_other (fun e=>by subst e;rw [show w.heap[b]? = _ from h] at hD;cases hD)).trans h
theorem zed {fn:Func} {t:Tmp} {ty:TypeId} (h:fn.results=#[.cell t ty]) (tmps:Array Value) (P:Program) (w:World) (b:Nat) (v:Value) (d:TypeDesc)
  (ht:tmps.getD t undef = .pointer (some ⟨b,0,none⟩)) (hc:w.cell? ⟨b,0,none⟩=some v) (hu:P.underlying ty=some d) (hd:d.isRow=false) :
  (results fn tmps).run P w = .ok v w:=by
 have hagg:(isAgg ty).run P w = .ok false w:=by
  unfold isAgg;rw [Sem.run_bind,run_underlying hu w]
  cases d<;>simp_all
 have hl:(loadVar ty ⟨b,0,none⟩).run P w = .ok v w:=by
  simp [loadVar,Sem.run_bind,hagg,hc]
 simp only [results,h];simp [-Array.getD_eq_getD_getElem?,ht,asAddr,hl]
def NI (w:World) (pre:List ByteArray) (X:World):Prop:=((pre.map zaa).all zgu=true∧Row X w.heap.size 4 [.bool false]∧Row X (w.heap.size+1) 4 [.bool ((pre.map zaa).any zi6)])∧Below w.heap.size w X
def NX (w:World) (c:Code) (pre:List ByteArray) (X:World):Prop:=((c = .ret∧∃ p∈pre.map zaa,zgu p=false)∧Row X w.heap.size 4 [.bool false])∧Below w.heap.size w X
theorem NI.own (w:World) (B:Nat) (hB:w.heap.size≤B):OwnFrom B (NI w):=
 OwnFrom.and (fun s X Y row h hg hr=>⟨h.1,(zvr w.heap.size 4 (fun (_:List ByteArray)=>[.bool false])).from B s X Y row h.2.1 hg hr,(zvr (w.heap.size+1) 4 (fun (s:List ByteArray)=>[.bool ((s.map zaa).any zi6)])).from B s X Y row h.2.2 hg hr⟩) (ownFrom_below zNr hB)
theorem NX.own (w:World) (c:Code) (B:Nat) (hB:w.heap.size≤B):OwnFrom B (NX w c):=
 OwnFrom.and (fun s X Y row h hg hr=>⟨h.1,(zvr w.heap.size 4 (fun (_:List ByteArray)=>[.bool false])).from B s X Y row h.2 hg hr⟩) (ownFrom_below zNr hB)
theorem zzn (p:List Int):zgu p=((decide (1≤p.length) && decide (p.length≤63)) && ((p.getD 0 0 != 45 && p.getD (p.length - 1) 0 != 45) && p.all labC)):=rfl
theorem NX.bad {w X X':World} {pre:List ByteArray} {g:ByteArray} (hX:Row X w.heap.size 4 [.bool false]) (hb:Below w.heap.size w X) (h:zgu (zaa g)=false) (he:X'=X.setCell ⟨w.heap.size,0,none⟩ (.bool false)):NX w .ret (pre++[g]) X':=by
 subst he;exact ⟨⟨⟨rfl,zaa g,by simp,h⟩,hX.set 0 _⟩,hb.setCell zNr _⟩
theorem zq4 (s:ByteArray) (w:World) (hs:s.size≤4000000):Calls Tryz.prog 168 #[.string s] w fun e w'=>e = .returned (.bool (zfm (zaa s)))∧Below w.heap.size w w':=by
 have NE:=kd (show zfm (zaa s)=((decide (1≤s.size) && decide (s.size≤255)) && ((cutL 46 (zaa s)).all zgu && (cutL 46 (zaa s)).any zi6)) by rw [← zac];rfl);generalize zfm (zaa s)=R at *;refine (callsIn_wide (n:=9)).1 ?_;refine callsIn_of_wp_marks Tryz.func168 rfl trivial ?_
 simp only [Tryz.ntmps168,List.size_toArray,List.length_cons,List.length_nil,Nat.reduceAdd,Nat.reduceSub,Array.replicate_succ,Array.replicate_zero,List.push_toArray,List.append_toArray,List.nil_append,List.cons_append];refine wpIn_wide.2 ?_
 by_cases h1:s.size<1
 · have d1:decide ((s.size:Int)<1)=true:=by simp;omega
   have E:=kd (show R=false by rw [NE.out,decide_eq_false (by omega)];rfl);go_wp2_with fail;exact zlw (zed rfl _ _ _ w.heap.size (.bool false) _ rfl ((Row.new w 4 [.bool false]).cell 0) Tryz.underlying4 rfl) rfl ⟨by rw [E.out],zBr.alloc zNr _⟩
 have d1:decide ((s.size:Int)<1)=false:=by simp;omega
 by_cases h2:255<s.size
 · have d2:decide ((255:Int)<(s.size:Int))=true:=by simp;omega
   have E:=kd (show R=false by rw [NE.out,decide_eq_false (show ¬ s.size≤255 by omega),Bool.and_false];rfl);go_wp2_with fail;exact zlw (zed rfl _ _ _ w.heap.size (.bool false) _ rfl ((Row.new w 4 [.bool false]).cell 0) Tryz.underlying4 rfl) rfl ⟨by rw [E.out],zBr.alloc zNr _⟩
 have d2:decide ((255:Int)<(s.size:Int))=false:=by simp;omega
 have NE2:=kd (show R=((cutL 46 (zaa s)).all zgu && (cutL 46 (zaa s)).any zi6) by rw [NE.out,decide_eq_true (show 1≤s.size by omega),decide_eq_true (show s.size≤255 by omega)];rfl)
 have s255:s.size≤255:=by omega
 clear NE;go_wp2_with fail;refine (zpu s ⟨#[46]⟩ _).mono ?_;rintro e w' ⟨rfl,rfl⟩;go_wp2_with fail;have ST:=kd (Mine.refl w)
 have R0:Row (((((w.alloc (.cells #[.bool false] 4)).alloc (.cells #[.bool false] 4)).alloc (.cells #[.string s] 9)).alloc (.cells #[.string ⟨#[46]⟩] 9)).alloc (.cells #[.int .i64 0] 3)) w.heap.size 4 [.bool false]:=((((Row.new w 4 [.bool false]).alloc _).alloc _).alloc _).alloc _
 have R1:Row (((((w.alloc (.cells #[.bool false] 4)).alloc (.cells #[.bool false] 4)).alloc (.cells #[.string s] 9)).alloc (.cells #[.string ⟨#[46]⟩] 9)).alloc (.cells #[.int .i64 0] 3)) (w.heap.size+1) 4 [.bool false]:=by
  have h:=Row.new (w.alloc (.cells #[.bool false] 4)) 4 [.bool false];rw [World.size_alloc] at h;exact ((h.alloc _).alloc _).alloc _
 have R2:Row (((((w.alloc (.cells #[.bool false] 4)).alloc (.cells #[.bool false] 4)).alloc (.cells #[.string s] 9)).alloc (.cells #[.string ⟨#[46]⟩] 9)).alloc (.cells #[.int .i64 0] 3)) (w.heap.size+1+1) 9 [.string s]:=by
  have h:=Row.new ((w.alloc (.cells #[.bool false] 4)).alloc (.cells #[.bool false] 4)) 9 [.string s];rw [World.size_alloc,World.size_alloc] at h;exact (h.alloc _).alloc _
 have R3:Row (((((w.alloc (.cells #[.bool false] 4)).alloc (.cells #[.bool false] 4)).alloc (.cells #[.string s] 9)).alloc (.cells #[.string ⟨#[46]⟩] 9)).alloc (.cells #[.int .i64 0] 3)) (w.heap.size+1+1+1) 9 [.string ⟨#[46]⟩]:=by
  have h:=Row.new (((w.alloc (.cells #[.bool false] 4)).alloc (.cells #[.bool false] 4)).alloc (.cells #[.string s] 9)) 9 [.string ⟨#[46]⟩];rw [World.size_alloc,World.size_alloc,World.size_alloc] at h;exact h.alloc _
 have R4:Row (((((w.alloc (.cells #[.bool false] 4)).alloc (.cells #[.bool false] 4)).alloc (.cells #[.string s] 9)).alloc (.cells #[.string ⟨#[46]⟩] 9)).alloc (.cells #[.int .i64 0] 3)) (w.heap.size+1+1+1+1) 3 [.int .i64 0]:=by
  have h:=Row.new ((((w.alloc (.cells #[.bool false] 4)).alloc (.cells #[.bool false] 4)).alloc (.cells #[.string s] 9)).alloc (.cells #[.string ⟨#[46]⟩] 9)) 3 [.int .i64 0];rw [World.size_alloc,World.size_alloc,World.size_alloc,World.size_alloc] at h;exact h
 have BW:Below w.heap.size w (((((w.alloc (.cells #[.bool false] 4)).alloc (.cells #[.bool false] 4)).alloc (.cells #[.string s] 9)).alloc (.cells #[.string ⟨#[46]⟩] 9)).alloc (.cells #[.int .i64 0] 3)):=((((zBr.alloc zNr _).alloc (by simp) _).alloc (by simp;omega) _).alloc (by simp;omega) _).alloc (by simp;omega) _
 have SZ:(((((w.alloc (.cells #[.bool false] 4)).alloc (.cells #[.bool false] 4)).alloc (.cells #[.string s] 9)).alloc (.cells #[.string ⟨#[46]⟩] 9)).alloc (.cells #[.int .i64 0] 3)).heap.size=w.heap.size+5:=by simp
 generalize (((((w.alloc (.cells #[.bool false] 4)).alloc (.cells #[.bool false] 4)).alloc (.cells #[.string s] 9)).alloc (.cells #[.string ⟨#[46]⟩] 9)).alloc (.cells #[.int .i64 0] 3))=W at *;clear ST d1 d2;refine (wpIn_wide (n:=9)).1 ?_
 refine ydd (encs:=fun (x:ByteArray)=>#[.string x]) (b0:=w.heap.size+1+1) (Bs:=w.heap.size+1+1) (by omega) (gf:=305) (lb:=#[.pointer (some ⟨w.heap.size+1+1+1,0,none⟩),.pointer (some ⟨w.heap.size+1+1,0,none⟩),.pointer (some ⟨w.heap.size+1+1+1+1,0,none⟩)]) rfl (enters_of Tryz.func305 (by kernel_rfl) rfl)
  (zsw 8 (by omega) (w.heap.size+1+1) s hs W R2 R3 R4) (by omega) (by omega) (fun _=>rfl) (NI w) (NX w) (NI.own w _ (by omega)) (fun c=>NX.own w c _ (by omega))
  (fun p X v h=>⟨⟨h.1.1,h.1.2.1.setOther (by omega) v,h.1.2.2.setOther (by omega) v⟩,h.2.setCell (by show w.heap.size≤w.heap.size+1+1;omega) v⟩)
  (fun c p X v h=>⟨⟨h.1.1,h.1.2.setOther (by omega) v⟩,h.2.setCell (by show w.heap.size≤w.heap.size+1+1;omega) v⟩)
  ⟨⟨rfl,R0,R1⟩,BW⟩ (fun x=>{ tmps:=#[.string s,undef,.pointer (some ⟨w.heap.size,0,none⟩),.pointer (some ⟨w.heap.size+1,0,none⟩),.string x,undef,undef,.string s,.int .i64 (s.size:Int),.bool false,.bool false,.string s,.int .i64 (s.size:Int),.bool false,.bool false,.string s,.func (.func 305) #[] #[.pointer (some ⟨w.heap.size+1+1+1,0,none⟩),.pointer (some ⟨w.heap.size+1+1,0,none⟩),.pointer (some ⟨w.heap.size+1+1+1+1,0,none⟩)],.string x,undef,undef,undef,undef,undef,undef,undef,undef,undef,undef,undef,undef,undef,undef,undef,undef,undef,undef,undef,undef,undef,undef,undef,undef,undef,undef,undef,undef,undef,undef,undef,undef,undef,undef,undef,undef,undef,undef,undef,undef,undef,undef,undef,undef,undef,undef,undef,undef,undef],defers:=[] }) ?assign ?body ?done ?stop
 case assign =>
  intro l x X K hK
  gi_wp2
  exact hK
 case body =>
  intro l pre g X hl hI hlen;obtain ⟨⟨hall,q0,q1⟩,hb⟩:=hI;have HA:=kd hall;have Q0:=kd q0;have Q1:=kd q1;have QB:=kd hb;have LE:=kd (zzn (zaa g));have BAD:=kd (fun (h:zgu (zaa g)=false) X' he=>NX.bad (pre:=pre) (X':=X') q0 hb h he);have HL:=kd (zac g)
  have IDX:=kd (fun (i:Nat) (h:i<g.size) (z:Int) (hz:z=i) (w:World)=>zbe g (i:=i) h (z:=z) hz w);obtain ⟨u,hu⟩:∃ u,(pre.map zaa).any zi6=u:=⟨_,rfl⟩;rw [hu] at Q1;have HU:=kd hu;have c0:X.cell? ⟨w.heap.size,0,none⟩=some (.bool false):=Q0.out.cell 0
  have f0:=Q0.out.frozen 0;clear hall q0 q1 hb hu R0 R1 R2 R3 R4 BW;have B0:=kd (fun (v:Value)=>(KeepsOthers.setCell X ⟨w.heap.size,0,none⟩ v).from W.heap.size)
  by_cases k1:g.size<1
  · have e1:decide ((g.size:Int)<1)=true:=by simp;omega
    have B:=kd (BAD.out (by rw [LE.out,HL.out,decide_eq_false (show ¬ 1≤g.size by omega)];rfl))
    gi_wp2
    exact ⟨B0.out _,B.out _ rfl⟩
  have e1:decide ((g.size:Int)<1)=false:=by simp;omega
  by_cases k2:63<g.size
  · have e2:decide ((63:Int)<(g.size:Int))=true:=by simp;omega
    have B:=kd (BAD.out (by rw [LE.out,HL.out,decide_eq_false (show ¬ g.size≤63 by omega),Bool.and_false];rfl))
    gi_wp2
    exact ⟨B0.out _,B.out _ rfl⟩
  have e2:decide ((63:Int)<(g.size:Int))=false:=by simp;omega
  have g1:1≤g.size:=by omega
  have g63:g.size≤63:=by omega
  have i0:(0:Int)<(g.size:Int):=by omega
  have i2:(0:Int)≤(g.size:Int) - 1:=by omega
  have i3:(g.size:Int) - 1<(g.size:Int):=by omega
  have j0:=IDX.out 0 (by omega) 0 rfl;have j1:=IDX.out (g.size - 1) (by omega) ((g.size:Int) - 1) (by omega);rw [HL.out,decide_eq_true g1,decide_eq_true g63,Bool.and_self,Bool.true_and] at LE
  have GD:=kd (fun (k:Nat) (h:k<g.size)=>zdk (p:=labC) (l:=zaa g) (k:=k) (by rw [HL.out];exact h))
  have GW:=kd (fun (k:Nat) (h:k<g.size)=>show ((zaa g).take (k+1)).any (fun c => !zbc c)=(((zaa g).take k).any (fun c => !zbc c) || !zbc ((zaa g).getD k 0)) by
   rw [zcu (zaa g) (by rw [HL.out];exact h),List.any_append];simp)
  have GF:=kd (fun (k:Nat) (h:k<g.size) (h2:labC ((zaa g).getD k 0)=false)=>show (zaa g).all labC=false from zsj (p:=labC) (by rw [HL.out];exact h) h2);have GE:=kd (show (zaa g).take g.size=zaa g by rw [← HL.out,List.take_length])
  cases k3:((zaa g).getD 0 0 == 45) with
  | true =>
    have k3':decide ((zaa g).getD 0 0=45)=true:=k3;have B:=kd (BAD.out (by rw [LE.out,show ((zaa g).getD 0 0 != 45)=false by rw [bne,k3];rfl];rfl));clear LE BAD GD GW GF GE;generalize (zaa g).getD 0 0=x0 at *
    gi_wp2
    exact ⟨B0.out _,B.out _ rfl⟩
  | false =>
  have k3':decide ((zaa g).getD 0 0=45)=false:=k3
  cases k4:((zaa g).getD (g.size - 1) 0 == 45) with
  | true =>
    have k4':decide ((zaa g).getD (g.size - 1) 0=45)=true:=k4;have B:=kd (BAD.out (by rw [LE.out,show ((zaa g).getD (g.size - 1) 0 != 45)=false by rw [bne,k4];rfl,Bool.and_false];rfl));clear LE BAD GD GW GF GE;generalize (zaa g).getD 0 0=x0 at *
    generalize (zaa g).getD (g.size - 1) 0=x1 at *
    gi_wp2
    exact ⟨B0.out _,B.out _ rfl⟩
  | false =>
  have k4':decide ((zaa g).getD (g.size - 1) 0=45)=false:=k4;rw [show ((zaa g).getD 0 0 != 45)=true by rw [bne,k3];rfl,show ((zaa g).getD (g.size - 1) 0 != 45)=true by rw [bne,k4];rfl,Bool.true_and,Bool.true_and] at LE;generalize (zaa g).getD 0 0=x0 at *
  generalize (zaa g).getD (g.size - 1) 0=x1 at *
  gi_wp2
  clear j0 j1 c0 f0 i0 i2 i3
  gi_loopw [41] (fun v wr => ∃ (k:Nat) (us:Bool),k≤g.size∧v = .int .i64 k∧Hid (us=(u || ((zaa g).take k).any (fun c => !zbc c)))∧Hid (((zaa g).take k).all labC=true)∧Hid (Row wr w.heap.size 4 [.bool false])∧Hid (Row wr (w.heap.size+1) 4 [.bool us])∧Hid (Below w.heap.size w wr)∧Hid (KeepsFrom W.heap.size X wr∧zg1 (w.heap.size+1+1) X wr)) (fun v _=>g.size - (intOf v).toNat)
  case atStart=>exact ⟨0,u,Nat.zero_le _,rfl,kd (by simp),kd rfl,Q0,Q1,QB,kd ⟨KeepsFrom.refl _ _,fun _ _ _=>rfl⟩⟩
  case round =>
   clear Q0 Q1 QB;obtain ⟨k,us,hk,rfl,US,AL,Q0,Q1,QB,KS⟩:=hrel
   by_cases hkt:k<g.size
   · have hd2:decide ((k:Int)<(g.size:Int))=true:=by simp;omega
     have dx:=IDX.out k hkt k rfl;have c0:wr.cell? ⟨w.heap.size,0,none⟩=some (.bool false):=Q0.out.cell 0;have f0:=Q0.out.frozen 0;have c1:wr.cell? ⟨w.heap.size+1,0,none⟩=some (.bool us):=Q1.out.cell 0;have f1:=Q1.out.frozen 0;have AN:=kd (GD.out k hkt)
     have UN:=kd (GW.out k hkt);have FN:=kd (GF.out k hkt);rw [AL.out,Bool.true_and] at AN;have HE:=kd (zi5 ((zaa g).getD k 0) wr);have HD:=kd (zer ((zaa g).getD k 0) wr);generalize (zaa g).getD k 0=c at *;have LC:=kd (show labC c=(zgv c || (zbc c || c == 45)) from rfl)
     obtain ⟨l0,hl0⟩:∃ l0,zgv c=l0:=⟨_,rfl⟩;obtain ⟨d0,hd0⟩:∃ d0,zbc c=d0:=⟨_,rfl⟩;obtain ⟨h0,hh0⟩:∃ h0,(c == 45)=h0:=⟨_,rfl⟩;have hh1:decide (c=45)=h0:=hh0
     have hh2:(c != 45) = !h0:=by simp [bne,hh0]
     rw [hl0,hd0,hh0] at LC;rw [hl0] at HE;rw [hd0] at HD UN
     cases hok:labC c with
     | false =>
       have B:=kd (fun X' he=>NX.bad (w:=w) (X:=wr) (X':=X') (pre:=pre) (g:=g) Q0.out QB.out (by rw [LE.out,FN.out hok]) he);rw [hok] at LC;have LCo:=LC.out
       have e1:l0=false:=by cases l0<;>simp at LCo ⊢
       have e2:d0=false:=by cases l0<;>cases d0<;>simp at LCo ⊢
       have e3:h0=false:=by cases l0<;>cases d0<;>cases h0<;>simp at LCo ⊢
       subst e1 e2 e3;clear LCo LC AN UN FN hl0 hd0 BAD hok
       gi_wp2_with (first|(refine ⟨trivial,?_⟩;gi_at_call 228;refine (CallsIn.inRound l (callsIn_wide.2 HE.out)).mono ?_;rintro e w' ⟨rfl,rfl⟩)|(refine ⟨trivial,?_⟩;gi_at_call 226;refine (CallsIn.inRound l (callsIn_wide.2 HD.out)).mono ?_;rintro e w' ⟨rfl,rfl⟩))
       exact ⟨KS.out.1.trans ((KeepsOthers.setCell _ _ _).from _),B.out _ rfl⟩
     | true =>
       have LCo:=LC.out;rw [hok] at LCo AN;clear LC FN hok BAD hl0
       cases l0<;>cases d0<;>cases h0<;>cases us<;>first
       | (exfalso;revert LCo;decide)
       | skip
       all_goals
        clear LCo
        gi_wp2_with (first|(refine ⟨trivial,?_⟩;gi_at_call 228;refine (CallsIn.inRound l (callsIn_wide.2 HE.out)).mono ?_;rintro e w' ⟨rfl,rfl⟩)|(refine ⟨trivial,?_⟩;gi_at_call 226;refine (CallsIn.inRound l (callsIn_wide.2 HD.out)).mono ?_;rintro e w' ⟨rfl,rfl⟩)|(refine ⟨trivial,?_⟩;go_at_K))
        go_roundw
        case rel=>exact ⟨k+1,_,by omega,by go_num,kd (by rw [UN.out,← Bool.or_assoc,← US.out];rfl),AN,kd (Q0.out.setOther (by omega) _),kd (Q1.out.set 0 _),kd (QB.out.setCell (by show w.heap.size≤w.heap.size+1;omega) _),kd ⟨KS.out.1.trans ((KeepsOthers.setCell _ _ _).from _),KS.out.2.trans (fun i h1 h2=>zkj (by omega))⟩⟩
        case measure=>simp [intOf];omega
   · obtain rfl:k=g.size:=by omega
     have hd2:decide ((g.size:Int)<(g.size:Int))=false:=by simp
     have N:=kd (show NI w (pre++[g]) wr from by
      refine ⟨⟨?_,Q0.out,?_⟩,QB.out⟩
      · rw [List.map_append,List.all_append,HA.out]
        show (true && (zgu (zaa g) && true))=true;rw [LE.out,← GE.out,AL.out];rfl
      · rw [List.map_append,List.any_append,HU.out,show ([g].map zaa).any zi6=zi6 (zaa g) by simp,show zi6 (zaa g)=(zaa g).any (fun c => !zbc c) from rfl,← GE.out,← US.out];exact Q1.out)
     clear BAD LE GD GW GF GE AL US
     gi_wp2
     exact ⟨KS.out.1,KS.out.2,N.out⟩
 case done =>
  intro D xs X hD hS hI hdef;obtain ⟨⟨hall,q0,q1⟩,hb⟩:=hI;rw [show xs.map zaa=cutL 46 (zaa s) from hS] at hall q1;rw [hall,Bool.true_and] at NE2;rw [← NE2.out] at q1;have c1:X.cell? ⟨w.heap.size+1,0,none⟩=some (.bool R):=q1.cell 0
  have c0:X.cell? ⟨w.heap.size,0,none⟩=some (.bool false):=q0.cell 0;have f0:=q0.frozen 0;have r0:=kd (q0.set 0 (.bool R));have bb:=kd (hb.setCell (p:=⟨w.heap.size,0,none⟩) zNr (.bool R))
  have HDE:=kd (show (X.setCell ⟨w.heap.size,0,none⟩ (.bool R)).heap[D]? = some (.deferred (some [])) from (zkj (by omega)).trans hdef);have BPUT:=kd (zpe bb.out (l:=D) (by omega) (.deferred none));clear hall q0 q1 hb hdef R0 R1 R2 R3 R4 BW;go_wp2_with fail
  exact zlv rfl HDE.out (zed rfl _ _ _ w.heap.size (.bool R) _ rfl ((ybg r0.out HDE.out).cell 0) Tryz.underlying4 rfl) ⟨rfl,BPUT.out⟩
 case stop =>
  intro D c pre X hD hS hI hdef;clear R0 R1 R2 R3 R4 BW;obtain ⟨⟨⟨rfl,p,hp,hbad⟩,q0⟩,hb⟩:=hI;obtain ⟨suf,hsuf⟩:=hS
  have E:=kd (show R=false by
   rw [NE2.out,← hsuf,List.all_append,show (pre.map zaa).all zgu=false from by
    rw [Bool.eq_false_iff];intro ha;have:=List.all_eq_true.1 ha p hp;rw [hbad] at this;cases this];rfl)
  gi_wp2
  exact zlv rfl hdef (zed rfl _ _ _ w.heap.size (.bool R) _ rfl ((ybg (E.out ▸ q0) hdef).cell 0) Tryz.underlying4 rfl) ⟨rfl,zpe hb (l:=D) (by omega) (.deferred none)⟩
end Go.Proofs.YtfnmkedncfdceaaGreatDoor
