/- The statement 'x, m, e := dialog.Request(d, M, via())' as one theorem over its slots. And what stands behind it. -/
import Derived.Test.YtfnmkedncfdceaaGreatDoorKn
import Derived.Test.YtfnmkedncfdceaaGreatDoorKl
set_option linter.unusedVariables false
set_option linter.unusedSimpArgs false
set_option maxRecDepth 100000
set_option maxHeartbeats 16000000
namespace Go.Proofs.YtfnmkedncfdceaaGreatDoor
open Go.RowKit

def OpIs (ops:Array Oper) (i:Nat) (f:Op) (d:Option Tmp) (js:List Nat):Prop := ∃ o,ops[i]? = some o∧o.op=f∧o.dst=d∧o.guard=none∧(js.all fun j=>o.after.toList.any fun e=>Region.binds .any e && e.on == j)=true
section
variable {ops : Array Oper} {i : Nat} {f : Op} {js : List Nat} {o : Oper} {d : Option Tmp}
theorem OpIs.out (h:OpIs ops i f d js) (ho:ops[i]? = some o):o.op=f∧o.guard=none∧∀ j∈js,(o.after.toList.any fun e=>Region.binds .any e && e.on == j)=true:=by
 obtain ⟨o',h1,h2,_,h4,h5⟩:=h;obtain rfl:=Option.some.inj (h1.symm.trans ho);exact ⟨h2,h4,fun j hj=>List.all_eq_true.1 h5 j hj⟩
theorem OpIs.dep {A:Nat→World→Value→Prop} {a':Act} {W:World} {t:Tmp} (hD:zeb ops A o a' W) (h:OpIs ops i f (some t) js) (hj:(o.after.toList.any fun e=>Region.binds .any e && e.on == i)=true):A i W (a'.eval (.tmp t)):=by
 obtain ⟨o',h1,_,h3,_⟩:=h;exact zai hD i hj h1 h3
theorem OpIs.al {T:TypeId} {p:Tmp} (h:OpIs ops i (.alloc T) (some p) js):∃ oA,ops[i]? = some oA∧oA.op = .alloc T∧oA.dst=some p∧oA.guard=none:=by
 obtain ⟨o',h1,h2,h3,h4,_⟩:=h;exact ⟨o',h1,h2,h3,h4⟩
theorem OpIs.va {p:Tmp} (h:OpIs ops i f (some p) js):∃ oA,ops[i]? = some oA∧oA.dst=some p:=by
 obtain ⟨o',h1,h2,h3,_⟩:=h;exact ⟨o',h1,h3⟩
theorem OpIs.st {T:TypeId} {p q:Tmp} {x y:Nat} (h:OpIs ops i (.store T (.tmp p) (.tmp q)) none [x,y]):∃ oS,ops[i]? = some oS∧oS.op = .store T (.tmp p) (.tmp q)∧oS.dst=none∧oS.guard=none∧(oS.after.any fun e=>Region.binds .any e && e.on == x)=true∧(oS.after.any fun e=>Region.binds .any e && e.on == y)=true:=by
 obtain ⟨o',h1,h2,h3,h4,h5⟩:=h;have h6:=List.all_eq_true.1 h5;exact ⟨o',h1,h2,h3,h4,(by rw [← Array.any_toList];exact h6 x (by simp)),(by rw [← Array.any_toList];exact h6 y (by simp))⟩
end
structure RqX (w W:World) (d:Dlg) (q:Msg) (b1 b2:Nat) (A:Option Addr) (c:Nat) (A2:Option Addr) (c2:Nat):Prop where
 bw:Below w.heap.size w W
 g1:w.heap.size≤b1
 g2:w.heap.size≤b2
 ne:b1≠b2
 r1:Row W b1 25 (dgC d A c)
 r2:Row W b2 31 (mC q A2 none c2 0 0)
 va1:VS (strs d.rs).length A b1
 va2:VS (strs d.rs).length A b2
 vb1:VS (hds q.hs).length A2 b1
 vb2:VS (hds q.hs).length A2 b2
 sd:SF w A c d.rs W
 sm:Rds W W.heap.size A2 (hds q.hs)
 sq:Fre w A2
theorem yem {cs:List Value} (h:cs.length=12):∃ a b c d e f g h i j k l,cs=[a,b,c,d,e,f,g,h,i,j,k,l]:=by
 match cs,h with
 | [a,b,c,d,e,f,g,h,i,j,k,l],_=>exact ⟨_,_,_,_,_,_,_,_,_,_,_,_,rfl⟩
theorem zvn {cs:List Value} (h:cs.length=12):(Tryz.prog.info? 25).map (·.size)=some cs.length:=by
 obtain ⟨a,b,c,d,e,f,g,i,j,k,l,m,rfl⟩:=yem h;exact zae a b c d e f g i j k l m
structure Req_c (ops:Array Oper) (src ld via call tup x0 x1 x2 a1 a2 r:Tmp) (mo:Operand) (tys:Array TypeId):Prop where
 o0:OpIs ops 0 (.load 25 (.tmp src)) (some ld) []
 o1:OpIs ops 1 (.call { callee := .value (.func 20),args:=#[],argTypes:=#[] }) (some via) []
 o2:OpIs ops 2 (.call { callee := .value (.func 11),args:=#[.tmp ld,mo,.tmp via],argTypes:=tys }) (some call) [0,1]
 o3:OpIs ops 3 (.move (.tmp call)) (some tup) [2]
 o4:OpIs ops 4 (.extract (.tmp tup) 0) (some x0) [3]
 o5:OpIs ops 5 (.extract (.tmp tup) 1) (some x1) [3]
 o6:OpIs ops 6 (.extract (.tmp tup) 2) (some x2) [3]
 o7:OpIs ops 7 (.alloc 25) (some a1) []
 o8:OpIs ops 8 (.alloc 31) (some a2) []
 o9:OpIs ops 9 (.store 25 (.tmp a1) (.tmp x0)) (none) [7,4]
 o10:OpIs ops 10 (.store 31 (.tmp a2) (.tmp x1)) (none) [8,5]
 o11:OpIs ops 11 (.assign (.tmp x2)) (some r) [6]
theorem yc6 (src ld via call tup x0 x1 x2 a1 a2 r:Tmp) (mo:Operand) {tys:Array TypeId} {ops:Array Oper} {id:Nat} {a:Act} {w:World} {Q:Exit→Act→World→Prop} (hm:Tryz.prog.follows .mixedOrders=true) (hA:ahead ops=true) (hS:ssa ops a.tmps.size=true) (hsz:ops.size=12)
  (H:Req_c ops src ld via call tup x0 x1 x2 a1 a2 r mo tys) (hfs:free ops src=true) (R:Except Int (Dlg × Msg)) (d:Dlg) (q:Msg) (k:Int) (hd:rqD R=d) (hq:rqQ R=q) (hk:rqE R=k) (M:ByteArray) (hM:∀ a:Act,a.eval mo = .string M)
  {gb:Nat} {cs:List Value} (hcs:cs.length=12) (hsrc:a.eval (.tmp src) = .pointer (some ⟨gb,0,none⟩)) (RB:Hid (Row w gb 25 cs)) (RQ:Hid (∀ W,Below w.heap.size w W→Calls Tryz.prog 11 #[.agg cs.toArray,.string M,.string (strOfNums VIA2)] W (RqP W R)))
  (hend:∀ v0 v1 v2 v3 v4 v5 v6 v9 v10 W b1 b2 A c A2 c2,RqX w W d q b1 b2 A c A2 c2→Q .normal (putL a ops.toList [v0,v1,v2,v3,v4,v5,v6,.pointer (some ⟨b1,0,none⟩),.pointer (some ⟨b2,0,none⟩),v9,v10,.int .u8 k]) W):(Code.region id ops true).wp Tryz.prog Q a w:=by
 refine zjz hm hA (fun (i:Nat) (W:World) (v:Value)=>match i with
  | 0=>v = .agg cs.toArray
  | 1=>v = .string (strOfNums VIA2)
  | 2=>AT w d q k W v
  | 3=>AT w d q k W v
  | 4=>AD w d W v
  | 5=>AM w q W v
  | 6=>v = .int .u8 k
  | 11=>v = .int .u8 k
  | _=>True) (fun (i:Nat) (v:Value) (b:Nat)=>match i with
  | 2=>VT d q k v b
  | 3=>VT d q k v b
  | 4=>VD d v b
  | 5=>VM q v b
  | _=>True) [⟨7,9,4,a1,x0,25,Z12⟩,⟨8,10,5,a2,x1,31,Z6m⟩] hS ?hK ?hkk ?hpo ?hAb ?hAs ?hAn ?hval ?hstep ?hend
 case hK =>
  intro κ hκ;simp only [List.mem_cons,List.not_mem_nil,or_false] at hκ
  rcases hκ with rfl|rfl
  · exact ⟨H.o7.al,H.o4.va,H.o9.st,by kernel_rfl,by kernel_rfl⟩
  · exact ⟨H.o8.al,H.o5.va,H.o10.st,by kernel_rfl,by kernel_rfl⟩
 case hkk =>
  intro x hx y hy h;simp only [List.mem_cons,List.not_mem_nil,or_false] at hx hy
  rcases hx with rfl|rfl<;>rcases hy with rfl|rfl
  · rfl
  · rcases h with h|h<;>exact absurd h (by simp)
  · rcases h with h|h<;>exact absurd h (by simp)
  · rfl
 case hpo =>
  intro κ hκ;simp only [List.mem_cons,List.not_mem_nil,or_false] at hκ
  rcases hκ with rfl|rfl<;>rfl
 case hAb =>
  intro i v W W' hb h
  rcases i with _|_|_|_|_|_|_|_|_|_|_|_|i
  all_goals first
   | exact h
   | exact AT.below h hb
   | exact AD.below h hb
   | exact AM.below h hb
 case hAs =>
  intro i v W W' b h hv hs hh
  rcases i with _|_|_|_|_|_|_|_|_|_|_|_|i
  all_goals first
   | exact h
   | exact AT.off h hv hs hh
   | exact AD.off h hv hs hh
   | exact AM.off h hv hs hh
 case hAn =>
  intro i v W h
  rcases i with _|_|_|_|_|_|_|_|_|_|_|_|i
  all_goals first
   | exact trivial
   | exact AT.new h
   | exact AD.new h
   | exact AM.new h
 case hval =>
  intro κ hκ W v h;simp only [List.mem_cons,List.not_mem_nil,or_false] at hκ
  rcases hκ with rfl|rfl
  · obtain ⟨A0,c0,rfl,_⟩:=(show AD w d W v from h)
    exact ⟨_,rfl,rfl,zat⟩
  · obtain ⟨A0,c0,rfl,_⟩:=(show AM w q W v from h)
    exact ⟨_,rfl,rfl,zg8⟩
 case hstep =>
  intro i o hp ho a' W hB hF hD _
  match i,ho,hp with
  | 0,ho,hp =>
    obtain ⟨hop,hg,hj⟩:=H.o0.out ho;exact (zaf ho hg (zf4 25 (.tmp src) hop gb 0 cs _ ((zap hF hfs).trans hsrc) ((RB.out.below hB).range) Tryz.underlying25 rfl (zvn hcs) ⟨_,rfl,Below.refl _ _,fun _ he=>⟨rfl,fun _ _ _=>trivial⟩⟩))
  | 1,ho,hp =>
    obtain ⟨hop,hg,hj⟩:=H.o1.out ho;exact (zaf ho hg (zc3 20 _ _ hop #[] (by simp only [List.map_toArray,List.map_nil]) (enters_of Tryz.func20 (by kernel_rfl) rfl) ((zrc W).mono fun e W2 ⟨he,hb⟩=>⟨_,he,_,rfl,hb,fun _ _=>⟨rfl,fun _ _ _=>trivial⟩⟩)))
  | 2,ho,hp =>
    obtain ⟨hop,hg,hj⟩:=H.o2.out ho;have hx0:a'.eval (.tmp ld) = .agg cs.toArray:=((OpIs.dep hD H.o0 (hj 0 (by simp))) rfl);have hx1:a'.eval mo = .string M:=hM a';have hx2:a'.eval (.tmp via) = .string (strOfNums VIA2):=((OpIs.dep hD H.o1 (hj 1 (by simp))) rfl)
    exact (zaf ho hg (zc3 11 _ _ hop #[.agg cs.toArray,.string M,.string (strOfNums VIA2)] (by simp only [List.map_toArray,List.map_cons,List.map_nil,hx0,hx1,hx2]) (enters_of Tryz.func11 (by kernel_rfl) rfl) ((RQ.out W hB).mono fun e W2 h=>by
     obtain ⟨v,he,hb,ha,hv⟩:=RqP.at h hB hd hq hk
     exact ⟨v,he,v,rfl,hb,fun _ _=>⟨ha,fun b hlt _=>hv b hlt⟩⟩)))
  | 3,ho,hp =>
    obtain ⟨hop,hg,hj⟩:=H.o3.out ho;exact (zaf ho hg (zb5 (.tmp call) (.inl hop) ⟨_,rfl,Below.refl _ _,fun _ _=>⟨((OpIs.dep hD H.o2 (hj 2 (by simp))) rfl),fun b _ hd=>((OpIs.dep hd H.o2 (hj 2 (by simp))) rfl)⟩⟩))
  | 4,ho,hp =>
    obtain ⟨hop,hg,hj⟩:=H.o4.out ho;obtain ⟨A0,c0,A02,c02,e0,s0,f0,r0⟩:=(show AT w d q k W (a'.eval (.tmp tup)) from ((OpIs.dep hD H.o3 (hj 3 (by simp))) rfl))
    exact (zaf ho hg (zle (.tmp tup) 0 hop e0 _ rfl ⟨_,rfl,Below.refl _ _,fun _ _=>⟨⟨A0,c0,rfl,s0⟩,fun b _ hd B e' he=>by
     have hvt:VT d q k (a'.eval (.tmp tup)) b:=((OpIs.dep hd H.o3 (hj 3 (by simp))) rfl);rw [← zkv he]
     exact (hvt A0 c0 A02 c02 e0).1⟩⟩))
  | 5,ho,hp =>
    obtain ⟨hop,hg,hj⟩:=H.o5.out ho;obtain ⟨A0,c0,A02,c02,e0,s0,f0,r0⟩:=(show AT w d q k W (a'.eval (.tmp tup)) from ((OpIs.dep hD H.o3 (hj 3 (by simp))) rfl))
    exact (zaf ho hg (zle (.tmp tup) 1 hop e0 _ rfl ⟨_,rfl,Below.refl _ _,fun _ _=>⟨⟨A02,c02,rfl,f0,r0⟩,fun b _ hd B e' he=>by
     have hvt:VT d q k (a'.eval (.tmp tup)) b:=((OpIs.dep hd H.o3 (hj 3 (by simp))) rfl);rw [← zof he]
     exact (hvt A0 c0 A02 c02 e0).2⟩⟩))
  | 6,ho,hp =>
    obtain ⟨hop,hg,hj⟩:=H.o6.out ho;obtain ⟨A0,c0,A02,c02,e0,s0,f0,r0⟩:=(show AT w d q k W (a'.eval (.tmp tup)) from ((OpIs.dep hD H.o3 (hj 3 (by simp))) rfl));exact (zaf ho hg (zle (.tmp tup) 2 hop e0 _ rfl ⟨_,rfl,Below.refl _ _,fun _ _=>⟨rfl,fun _ _ _=>trivial⟩⟩))
  | 7,ho,hp=>exact absurd (show false=true from hp) (by decide)
  | 8,ho,hp=>exact absurd (show false=true from hp) (by decide)
  | 9,ho,hp=>exact absurd (show false=true from hp) (by decide)
  | 10,ho,hp=>exact absurd (show false=true from hp) (by decide)
  | 11,ho,hp =>
    obtain ⟨hop,hg,hj⟩:=H.o11.out ho;exact (zaf ho hg (zb5 (.tmp x2) (.inr hop) ⟨_,rfl,Below.refl _ _,fun _ _=>⟨(show a'.eval (.tmp x2) = .int .u8 k from ((OpIs.dep hD H.o6 (hj 6 (by simp))) rfl)),fun _ _ _=>trivial⟩⟩))
  | i+12,ho,hp=>exact absurd ho (by rw [Array.getElem?_eq_none (by rw [hsz];omega)];simp)
 case hend =>
  intro vs W hBW hlen hall hkv;rw [hsz] at hlen
  obtain ⟨v0,v1,v2,v3,v4,v5,v6,v7,v8,v9,v10,v11,rfl⟩:∃ v0 v1 v2 v3 v4 v5 v6 v7 v8 v9 v10 v11,vs=[v0,v1,v2,v3,v4,v5,v6,v7,v8,v9,v10,v11]:=by
   match vs,hlen with
   | [v0,v1,v2,v3,v4,v5,v6,v7,v8,v9,v10,v11],_=>exact ⟨_,_,_,_,_,_,_,_,_,_,_,_,rfl⟩
  obtain rfl:v11 = .int .u8 k:=by
   obtain ⟨o9,h1,h2⟩:=H.o11.va;exact hall 11 o9 _ v11 rfl h1 h2 rfl
  obtain ⟨b1,us1,k1,g1,k3,R1,y1⟩:=hkv ⟨7,9,4,a1,x0,25,Z12⟩ (by simp);obtain ⟨b2,us2,k2,g2,k4,R2,y2⟩:=hkv ⟨8,10,5,a2,x1,31,Z6m⟩ (by simp)
  obtain rfl:v7 = .pointer (some ⟨b1,0,none⟩):=by simpa using k1
  obtain rfl:v8 = .pointer (some ⟨b2,0,none⟩):=by simpa using k2
  obtain ⟨A7,c7,e7,s7⟩:=(show AD w d W v4 from by obtain ⟨o9,h1,h2⟩:=H.o4.va;exact hall 4 o9 _ v4 rfl h1 h2 rfl);obtain ⟨A8,c8,e8,f8,s8⟩:=(show AM w q W v5 from by obtain ⟨o9,h1,h2⟩:=H.o5.va;exact hall 5 o9 _ v5 rfl h1 h2 rfl)
  obtain rfl:us1=dgC d A7 c7:=by
   have h1:v4 = .agg us1.toArray:=by simpa using k3
   rw [e7] at h1
   injection h1 with h1
   exact (List.toArray_inj h1).symm
  obtain rfl:us2=mC q A8 none c8 0 0:=by
   have h1:v5 = .agg us2.toArray:=by simpa using k4
   rw [e8] at h1
   injection h1 with h1
   exact (List.toArray_inj h1).symm
  exact hend _ _ _ _ _ _ _ _ _ W b1 b2 A7 c7 A8 c8 ⟨hBW,g1,g2,zft R1 R2 (show (25:TypeId)≠31 by decide),R1,R2,(show VD d v4 b1 from by obtain ⟨o9,h1,h2⟩:=H.o4.va;exact y1 4 o9 _ v4 rfl h1 h2 rfl) A7 c7 e7,(show VD d v4 b2 from by obtain ⟨o9,h1,h2⟩:=H.o4.va;exact y2 4 o9 _ v4 rfl h1 h2 rfl) A7 c7 e7,(show VM q v5 b1 from by obtain ⟨o9,h1,h2⟩:=H.o5.va;exact y1 5 o9 _ v5 rfl h1 h2 rfl) A8 c8 e8,(show VM q v5 b2 from by obtain ⟨o9,h1,h2⟩:=H.o5.va;exact y2 5 o9 _ v5 rfl h1 h2 rfl) A8 c8 e8,s7,s8,f8⟩
structure Req_m (ops:Array Oper) (src ms mv ld via call tup x0 x1 x2 a1 a2 r:Tmp) (tys:Array TypeId):Prop where
 o0:OpIs ops 0 (.load 25 (.tmp src)) (some ld) []
 o1:OpIs ops 1 (.move (.tmp ms)) (some mv) []
 o2:OpIs ops 2 (.call { callee := .value (.func 20),args:=#[],argTypes:=#[] }) (some via) []
 o3:OpIs ops 3 (.call { callee := .value (.func 11),args:=#[.tmp ld,.tmp mv,.tmp via],argTypes:=tys }) (some call) [0,1,2]
 o4:OpIs ops 4 (.move (.tmp call)) (some tup) [3]
 o5:OpIs ops 5 (.extract (.tmp tup) 0) (some x0) [4]
 o6:OpIs ops 6 (.extract (.tmp tup) 1) (some x1) [4]
 o7:OpIs ops 7 (.extract (.tmp tup) 2) (some x2) [4]
 o8:OpIs ops 8 (.alloc 25) (some a1) []
 o9:OpIs ops 9 (.alloc 31) (some a2) []
 o10:OpIs ops 10 (.store 25 (.tmp a1) (.tmp x0)) (none) [8,5]
 o11:OpIs ops 11 (.store 31 (.tmp a2) (.tmp x1)) (none) [9,6]
 o12:OpIs ops 12 (.assign (.tmp x2)) (some r) [7]
theorem req_m (src ms mv ld via call tup x0 x1 x2 a1 a2 r:Tmp) {tys:Array TypeId} {ops:Array Oper} {id:Nat} {a:Act} {w:World} {Q:Exit→Act→World→Prop} (hm:Tryz.prog.follows .mixedOrders=true) (hA:ahead ops=true) (hS:ssa ops a.tmps.size=true) (hsz:ops.size=13)
  (H:Req_m ops src ms mv ld via call tup x0 x1 x2 a1 a2 r tys) (hfs:free ops src=true) (hfm:free ops ms=true) (R:Except Int (Dlg × Msg)) (d:Dlg) (q:Msg) (k:Int) (hd:rqD R=d) (hq:rqQ R=q) (hk:rqE R=k) (M:ByteArray) (hM:a.eval (.tmp ms) = .string M)
  {gb:Nat} {cs:List Value} (hcs:cs.length=12) (hsrc:a.eval (.tmp src) = .pointer (some ⟨gb,0,none⟩)) (RB:Hid (Row w gb 25 cs)) (RQ:Hid (∀ W,Below w.heap.size w W→Calls Tryz.prog 11 #[.agg cs.toArray,.string M,.string (strOfNums VIA2)] W (RqP W R)))
  (hend:∀ v0 v1 v2 v3 v4 v5 v6 v7 v10 v11 W b1 b2 A c A2 c2,RqX w W d q b1 b2 A c A2 c2→Q .normal (putL a ops.toList [v0,v1,v2,v3,v4,v5,v6,v7,.pointer (some ⟨b1,0,none⟩),.pointer (some ⟨b2,0,none⟩),v10,v11,.int .u8 k]) W):(Code.region id ops true).wp Tryz.prog Q a w:=by
 refine zjz hm hA (fun (i:Nat) (W:World) (v:Value)=>match i with
  | 0=>v = .agg cs.toArray
  | 1=>v = .string M
  | 2=>v = .string (strOfNums VIA2)
  | 3=>AT w d q k W v
  | 4=>AT w d q k W v
  | 5=>AD w d W v
  | 6=>AM w q W v
  | 7=>v = .int .u8 k
  | 12=>v = .int .u8 k
  | _=>True) (fun (i:Nat) (v:Value) (b:Nat)=>match i with
  | 3=>VT d q k v b
  | 4=>VT d q k v b
  | 5=>VD d v b
  | 6=>VM q v b
  | _=>True) [⟨8,10,5,a1,x0,25,Z12⟩,⟨9,11,6,a2,x1,31,Z6m⟩] hS ?hK ?hkk ?hpo ?hAb ?hAs ?hAn ?hval ?hstep ?hend
 case hK =>
  intro κ hκ;simp only [List.mem_cons,List.not_mem_nil,or_false] at hκ
  rcases hκ with rfl|rfl
  · exact ⟨H.o8.al,H.o5.va,H.o10.st,by kernel_rfl,by kernel_rfl⟩
  · exact ⟨H.o9.al,H.o6.va,H.o11.st,by kernel_rfl,by kernel_rfl⟩
 case hkk =>
  intro x hx y hy h;simp only [List.mem_cons,List.not_mem_nil,or_false] at hx hy
  rcases hx with rfl|rfl<;>rcases hy with rfl|rfl
  · rfl
  · rcases h with h|h<;>exact absurd h (by simp)
  · rcases h with h|h<;>exact absurd h (by simp)
  · rfl
 case hpo =>
  intro κ hκ;simp only [List.mem_cons,List.not_mem_nil,or_false] at hκ
  rcases hκ with rfl|rfl<;>rfl
 case hAb =>
  intro i v W W' hb h
  rcases i with _|_|_|_|_|_|_|_|_|_|_|_|_|i
  all_goals first
   | exact h
   | exact AT.below h hb
   | exact AD.below h hb
   | exact AM.below h hb
 case hAs =>
  intro i v W W' b h hv hs hh
  rcases i with _|_|_|_|_|_|_|_|_|_|_|_|_|i
  all_goals first
   | exact h
   | exact AT.off h hv hs hh
   | exact AD.off h hv hs hh
   | exact AM.off h hv hs hh
 case hAn =>
  intro i v W h
  rcases i with _|_|_|_|_|_|_|_|_|_|_|_|_|i
  all_goals first
   | exact trivial
   | exact AT.new h
   | exact AD.new h
   | exact AM.new h
 case hval =>
  intro κ hκ W v h;simp only [List.mem_cons,List.not_mem_nil,or_false] at hκ
  rcases hκ with rfl|rfl
  · obtain ⟨A0,c0,rfl,_⟩:=(show AD w d W v from h)
    exact ⟨_,rfl,rfl,zat⟩
  · obtain ⟨A0,c0,rfl,_⟩:=(show AM w q W v from h)
    exact ⟨_,rfl,rfl,zg8⟩
 case hstep =>
  intro i o hp ho a' W hB hF hD _
  match i,ho,hp with
  | 0,ho,hp =>
    obtain ⟨hop,hg,hj⟩:=H.o0.out ho;exact (zaf ho hg (zf4 25 (.tmp src) hop gb 0 cs _ ((zap hF hfs).trans hsrc) ((RB.out.below hB).range) Tryz.underlying25 rfl (zvn hcs) ⟨_,rfl,Below.refl _ _,fun _ he=>⟨rfl,fun _ _ _=>trivial⟩⟩))
  | 1,ho,hp =>
    obtain ⟨hop,hg,hj⟩:=H.o1.out ho;exact (zaf ho hg (zb5 (.tmp ms) (.inl hop) ⟨_,rfl,Below.refl _ _,fun _ _=>⟨(show a'.eval (.tmp ms) = .string M from (zap hF hfm).trans hM),fun _ _ _=>trivial⟩⟩))
  | 2,ho,hp =>
    obtain ⟨hop,hg,hj⟩:=H.o2.out ho;exact (zaf ho hg (zc3 20 _ _ hop #[] (by simp only [List.map_toArray,List.map_nil]) (enters_of Tryz.func20 (by kernel_rfl) rfl) ((zrc W).mono fun e W2 ⟨he,hb⟩=>⟨_,he,_,rfl,hb,fun _ _=>⟨rfl,fun _ _ _=>trivial⟩⟩)))
  | 3,ho,hp =>
    obtain ⟨hop,hg,hj⟩:=H.o3.out ho;have hx0:a'.eval (.tmp ld) = .agg cs.toArray:=((OpIs.dep hD H.o0 (hj 0 (by simp))) rfl);have hx1:a'.eval (.tmp mv) = .string M:=((OpIs.dep hD H.o1 (hj 1 (by simp))) rfl)
    have hx2:a'.eval (.tmp via) = .string (strOfNums VIA2):=((OpIs.dep hD H.o2 (hj 2 (by simp))) rfl)
    exact (zaf ho hg (zc3 11 _ _ hop #[.agg cs.toArray,.string M,.string (strOfNums VIA2)] (by simp only [List.map_toArray,List.map_cons,List.map_nil,hx0,hx1,hx2]) (enters_of Tryz.func11 (by kernel_rfl) rfl) ((RQ.out W hB).mono fun e W2 h=>by
     obtain ⟨v,he,hb,ha,hv⟩:=RqP.at h hB hd hq hk
     exact ⟨v,he,v,rfl,hb,fun _ _=>⟨ha,fun b hlt _=>hv b hlt⟩⟩)))
  | 4,ho,hp =>
    obtain ⟨hop,hg,hj⟩:=H.o4.out ho;exact (zaf ho hg (zb5 (.tmp call) (.inl hop) ⟨_,rfl,Below.refl _ _,fun _ _=>⟨((OpIs.dep hD H.o3 (hj 3 (by simp))) rfl),fun b _ hd=>((OpIs.dep hd H.o3 (hj 3 (by simp))) rfl)⟩⟩))
  | 5,ho,hp =>
    obtain ⟨hop,hg,hj⟩:=H.o5.out ho;obtain ⟨A0,c0,A02,c02,e0,s0,f0,r0⟩:=(show AT w d q k W (a'.eval (.tmp tup)) from ((OpIs.dep hD H.o4 (hj 4 (by simp))) rfl))
    exact (zaf ho hg (zle (.tmp tup) 0 hop e0 _ rfl ⟨_,rfl,Below.refl _ _,fun _ _=>⟨⟨A0,c0,rfl,s0⟩,fun b _ hd B e' he=>by
     have hvt:VT d q k (a'.eval (.tmp tup)) b:=((OpIs.dep hd H.o4 (hj 4 (by simp))) rfl);rw [← zkv he]
     exact (hvt A0 c0 A02 c02 e0).1⟩⟩))
  | 6,ho,hp =>
    obtain ⟨hop,hg,hj⟩:=H.o6.out ho;obtain ⟨A0,c0,A02,c02,e0,s0,f0,r0⟩:=(show AT w d q k W (a'.eval (.tmp tup)) from ((OpIs.dep hD H.o4 (hj 4 (by simp))) rfl))
    exact (zaf ho hg (zle (.tmp tup) 1 hop e0 _ rfl ⟨_,rfl,Below.refl _ _,fun _ _=>⟨⟨A02,c02,rfl,f0,r0⟩,fun b _ hd B e' he=>by
     have hvt:VT d q k (a'.eval (.tmp tup)) b:=((OpIs.dep hd H.o4 (hj 4 (by simp))) rfl);rw [← zof he]
     exact (hvt A0 c0 A02 c02 e0).2⟩⟩))
  | 7,ho,hp =>
    obtain ⟨hop,hg,hj⟩:=H.o7.out ho;obtain ⟨A0,c0,A02,c02,e0,s0,f0,r0⟩:=(show AT w d q k W (a'.eval (.tmp tup)) from ((OpIs.dep hD H.o4 (hj 4 (by simp))) rfl));exact (zaf ho hg (zle (.tmp tup) 2 hop e0 _ rfl ⟨_,rfl,Below.refl _ _,fun _ _=>⟨rfl,fun _ _ _=>trivial⟩⟩))
  | 8,ho,hp=>exact absurd (show false=true from hp) (by decide)
  | 9,ho,hp=>exact absurd (show false=true from hp) (by decide)
  | 10,ho,hp=>exact absurd (show false=true from hp) (by decide)
  | 11,ho,hp=>exact absurd (show false=true from hp) (by decide)
  | 12,ho,hp =>
    obtain ⟨hop,hg,hj⟩:=H.o12.out ho;exact (zaf ho hg (zb5 (.tmp x2) (.inr hop) ⟨_,rfl,Below.refl _ _,fun _ _=>⟨(show a'.eval (.tmp x2) = .int .u8 k from ((OpIs.dep hD H.o7 (hj 7 (by simp))) rfl)),fun _ _ _=>trivial⟩⟩))
  | i+13,ho,hp=>exact absurd ho (by rw [Array.getElem?_eq_none (by rw [hsz];omega)];simp)
 case hend =>
  intro vs W hBW hlen hall hkv;rw [hsz] at hlen
  obtain ⟨v0,v1,v2,v3,v4,v5,v6,v7,v8,v9,v10,v11,v12,rfl⟩:∃ v0 v1 v2 v3 v4 v5 v6 v7 v8 v9 v10 v11 v12,vs=[v0,v1,v2,v3,v4,v5,v6,v7,v8,v9,v10,v11,v12]:=by
   match vs,hlen with
   | [v0,v1,v2,v3,v4,v5,v6,v7,v8,v9,v10,v11,v12],_=>exact ⟨_,_,_,_,_,_,_,_,_,_,_,_,_,rfl⟩
  obtain rfl:v12 = .int .u8 k:=by
   obtain ⟨o9,h1,h2⟩:=H.o12.va;exact hall 12 o9 _ v12 rfl h1 h2 rfl
  obtain ⟨b1,us1,k1,g1,k3,R1,y1⟩:=hkv ⟨8,10,5,a1,x0,25,Z12⟩ (by simp);obtain ⟨b2,us2,k2,g2,k4,R2,y2⟩:=hkv ⟨9,11,6,a2,x1,31,Z6m⟩ (by simp)
  obtain rfl:v8 = .pointer (some ⟨b1,0,none⟩):=by simpa using k1
  obtain rfl:v9 = .pointer (some ⟨b2,0,none⟩):=by simpa using k2
  obtain ⟨A7,c7,e7,s7⟩:=(show AD w d W v5 from by obtain ⟨o9,h1,h2⟩:=H.o5.va;exact hall 5 o9 _ v5 rfl h1 h2 rfl);obtain ⟨A8,c8,e8,f8,s8⟩:=(show AM w q W v6 from by obtain ⟨o9,h1,h2⟩:=H.o6.va;exact hall 6 o9 _ v6 rfl h1 h2 rfl)
  obtain rfl:us1=dgC d A7 c7:=by
   have h1:v5 = .agg us1.toArray:=by simpa using k3
   rw [e7] at h1
   injection h1 with h1
   exact (List.toArray_inj h1).symm
  obtain rfl:us2=mC q A8 none c8 0 0:=by
   have h1:v6 = .agg us2.toArray:=by simpa using k4
   rw [e8] at h1
   injection h1 with h1
   exact (List.toArray_inj h1).symm
  exact hend _ _ _ _ _ _ _ _ _ _ W b1 b2 A7 c7 A8 c8 ⟨hBW,g1,g2,zft R1 R2 (show (25:TypeId)≠31 by decide),R1,R2,(show VD d v5 b1 from by obtain ⟨o9,h1,h2⟩:=H.o5.va;exact y1 5 o9 _ v5 rfl h1 h2 rfl) A7 c7 e7,(show VD d v5 b2 from by obtain ⟨o9,h1,h2⟩:=H.o5.va;exact y2 5 o9 _ v5 rfl h1 h2 rfl) A7 c7 e7,(show VM q v6 b1 from by obtain ⟨o9,h1,h2⟩:=H.o6.va;exact y1 6 o9 _ v6 rfl h1 h2 rfl) A8 c8 e8,(show VM q v6 b2 from by obtain ⟨o9,h1,h2⟩:=H.o6.va;exact y2 6 o9 _ v6 rfl h1 h2 rfl) A8 c8 e8,s7,s8,f8⟩

theorem zoy {q r:Msg} {d:Dlg} (h:zbt q r false q.hs = .ok d):zdh q r = .ok { d with rq:=(zan q.hs).1 }:=by unfold zdh;rw [h]
theorem zqn {q r:Msg} {k:Int} (h:zbt q r false q.hs = .error k):zdh q r = .error k:=by unfold zdh;rw [h]
theorem zkp (q r:Msg) (A1 B1 A2 B2:Option Addr) (c1 n1 d1 c2 n2 d2:Nat) (w:World) (HQ:MArg w q A1) (HR:MArg w r A2) (G:GW w) :
  Calls Tryz.prog 16 #[.agg #[.string (strOfNums q.me),.string (strOfNums q.ur),.int .i64 q.co,.string (strOfNums q.re),.slice A1 q.hs.length c1,.slice B1 n1 d1],.agg #[.string (strOfNums r.me),.string (strOfNums r.ur),.int .i64 r.co,.string (strOfNums r.re),.slice A2 r.hs.length c2,.slice B2 n2 d2]] w (CrP w (zdh q r)):=by
 have M0:=kd (zei w 31 31 25 [.string (strOfNums q.me),.string (strOfNums q.ur),.int .i64 q.co,.string (strOfNums q.re),.slice A1 q.hs.length c1,.slice B1 n1 d1] [.string (strOfNums r.me),.string (strOfNums r.ur),.int .i64 r.co,.string (strOfNums r.re),.slice A2 r.hs.length c2,.slice B2 n2 d2] [.int .u8 0,.bool false,.string ⟨#[]⟩,.string ⟨#[]⟩,.string ⟨#[]⟩,.string ⟨#[]⟩,.string ⟨#[]⟩,.string ⟨#[]⟩,.slice none 0 0,.int .i64 0,.int .i64 0,.int .i64 0])
 have CR:=kd (fun w' (hb:Below w.heap.size w w')=>zl7 q r q A1 B1 A2 B2 A1 B1 c1 n1 d1 c2 n2 d2 c1 n1 d1 false w' (HQ.step hb) (HR.step hb) (HQ.step hb) (G.below hb));have SQ:=kd (fun w' (hb:Below w.heap.size w w')=>zej q A1 B1 c1 n1 d1 w' (HQ.step hb) (G.below hb))
 have E1:=kd (fun k h=>zqn (q:=q) (r:=r) (k:=k) h);have E2:=kd (fun d h=>zoy (q:=q) (r:=r) (d:=d) h);have BAD:=kd (fun w' k h hb hk=>CrP.bad (w:=w) (w':=w') (R:=zdh q r) (k:=k) h hb hk)
 have GOOD:=kd (fun w' d A c h hb hs=>CrP.good (w:=w) (w':=w') (R:=zdh q r) (d:=d) (A:=A) (c:=c) h hb hs);unfold mS at SQ;unfold dgC at GOOD;generalize CrP w (zdh q r)=PP at *;generalize zdh q r=R at *;generalize zbt q r false q.hs=cr at *;generalize zan q.hs=cq at *
 obtain ⟨qn,qm,qb⟩:=cq;dsimp only at *;clear HQ HR G
 go_enter Tryz.func16,Tryz.ntmps16
 go_upto_region 1 with (fail)
 generalize ((w.alloc (.cells #[.string (strOfNums q.me),.string (strOfNums q.ur),.int .i64 q.co,.string (strOfNums q.re),.slice A1 q.hs.length c1,.slice B1 n1 d1] 31)).alloc (.cells #[.string (strOfNums r.me),.string (strOfNums r.ur),.int .i64 r.co,.string (strOfNums r.re),.slice A2 r.hs.length c2,.slice B2 n2 d2] 31)).alloc (.cells #[.int .u8 0,.bool false,.string ⟨#[]⟩,.string ⟨#[]⟩,.string ⟨#[]⟩,.string ⟨#[]⟩,.string ⟨#[]⟩,.string ⟨#[]⟩,.slice none 0 0,.int .i64 0,.int .i64 0,.int .i64 0] 25)=w1 at *
 obtain ⟨g,hg⟩:∃ b,w.heap.size=b:=⟨_,rfl⟩;rw [hg] at M0 ⊢;clear hg;have RQ:=kd (M0.out.row (i:=2) rfl);have RR:=kd (M0.out.row (i:=1) rfl)
 go_wp2_with (first
  | (with_reducible refine zab rfl 31 (.tmp 2) rfl RQ.out rfl Tryz.underlying31 rfl zaw ?_)
  | (with_reducible refine zab rfl 31 (.tmp 3) rfl RR.out rfl Tryz.underlying31 rfl zaw ?_))
 refine (CR.out _ M0.out.bw).mono ?_;intro e w2 h2;clear CR RQ RR
 cases cr with
 | error k =>
   obtain ⟨rfl,hb2,hk⟩:=h2;have M2:=kd (M0.out.call hb2);have NZ:=kd hk;have N:=kd (E1.out k rfl)
   have dk:decide (k=0)=false:=by simpa using hk
   clear hb2 M0 E1 E2 SQ GOOD;go_upto_region 2 with (with_reducible refine zak rfl 25 (.tmp 6) (.tmp 14) rfl Z12 Z12 rfl rfl za6 (zae _ _ _ _ _ _ _ _ _ _ _ _) zat ?_;intro w3 R3 S3);have M3:=kd (M2.out.join S3.out zNr R3.out);generalize w2.heap.size=gd at *;clear R3 S3 M2
   go_wp2_with (with_reducible refine zad M3.out 1 rfl 25 (.tmp 4) (.tmp 18) rfl Z12 _ rfl rfl rfl rfl za6 (zae _ _ _ _ _ _ _ _ _ _ _ _) zat ?_);intro w9 M9;have R9:=M9.out.row (i:=1) rfl;go_wp2_with fail
   exact bodyPost_ret (zah rfl _ _ _ (g+1+1) Z12 _ rfl R9.range Tryz.underlying25 rfl (zae _ _ _ _ _ _ _ _ _ _ _ _)) rfl (by exact BAD.out _ _ N.out M9.out.bw NZ.out)
 | ok dd =>
   obtain ⟨A,c,rfl,hb2,hs⟩:=h2;have N:=kd (E2.out dd rfl);have SFH:=kd (hs.base M0.out.bw);have M2:=kd ((M0.out.call hb2).add (F:=fun W=>Rds W W.heap.size A (strs dd.rs)) (za9 hs.r (fun b o s e=>M0.out.fresh (hs.fresh b o s e).1)));clear hb2 M0 E1 E2 BAD hs;unfold dgC
   go_upto_region 2 with (with_reducible refine zak rfl 25 (.tmp 6) (.tmp 14) rfl Z12 (dV dd A c) rfl rfl za6 (zae _ _ _ _ _ _ _ _ _ _ _ _) zat ?_;intro w3 R3 S3);have M3:=kd (M2.out.join S3.out zNr R3.out);generalize w2.heap.size=gd at *;clear R3 S3 M2;have RQ:=kd (M3.out.row (i:=3) rfl)
   have m7:w3.cell? ⟨gd,10,none⟩=some (.int .i64 dd.rq):=(M3.out.row (i:=0) rfl).cell 10;have f7:w3.frozen? ⟨gd,10,none⟩=false:=(M3.out.row (i:=0) rfl).frozen 10;go_wp2_with (with_reducible refine zab rfl 31 (.tmp 2) rfl RQ.out rfl Tryz.underlying31 rfl zaw ?_)
   refine (SQ.out _ M3.out.bw).mono ?_;rintro _ w4 ⟨rfl,hb4⟩;clear m7 f7;have M4:=kd (M3.out.call hb4);clear hb4 SQ RQ M3;have m7:w4.cell? ⟨gd,10,none⟩=some (.int .i64 dd.rq):=(M4.out.row (i:=0) rfl).cell 10
   have f7:w4.frozen? ⟨gd,10,none⟩=false:=(M4.out.row (i:=0) rfl).frozen 10;go_upto_region 5 with (fail)
   have M7:=kd (show Mine w (w4.setCell ⟨gd,10,none⟩ (.int .i64 qn)) [(gd,25,[.int .u8 dd.st,.bool dd.cl,.string (strOfNums dd.ci),.string (strOfNums dd.lt),.string (strOfNums dd.rt),.string (strOfNums dd.lu),.string (strOfNums dd.ru),.string (strOfNums dd.tg),.slice A dd.rs.length c,.int .i64 dd.ls,.int .i64 qn,.int .i64 dd.iq]),(g+1+1,25,Z12),(g+1,31,(mV r A2 c2 B2 n2 d2)),(g,31,(mV q A1 c1 B1 n1 d1))] [fun W=>Rds W W.heap.size A (strs dd.rs)] from M4.out.setCell (i:=0) (off:=10) _ rfl rfl)
   clear m7 f7 M4;generalize w4.setCell ⟨gd,10,none⟩ (.int .i64 qn)=w7 at *;have RD:=kd (M7.out.row (i:=0) rfl)
   go_wp2_with (first
    | (with_reducible refine zab rfl 25 (.tmp 6) rfl RD.out rfl Tryz.underlying25 rfl (zae _ _ _ _ _ _ _ _ _ _ _ _) ?_)
    | (with_reducible refine zad M7.out 1 rfl 25 (.tmp 4) (.tmp 27) rfl [.int .u8 dd.st,.bool dd.cl,.string (strOfNums dd.ci),.string (strOfNums dd.lt),.string (strOfNums dd.rt),.string (strOfNums dd.lu),.string (strOfNums dd.ru),.string (strOfNums dd.tg),.slice A dd.rs.length c,.int .i64 dd.ls,.int .i64 qn,.int .i64 dd.iq] _ rfl rfl rfl rfl za6 (zae _ _ _ _ _ _ _ _ _ _ _ _) zat ?_))
   intro w9 M9;have R9:=M9.out.row (i:=1) rfl;go_wp2_with fail
   exact bodyPost_ret (zah rfl _ _ _ (g+1+1) [.int .u8 dd.st,.bool dd.cl,.string (strOfNums dd.ci),.string (strOfNums dd.lt),.string (strOfNums dd.rt),.string (strOfNums dd.lu),.string (strOfNums dd.ru),.string (strOfNums dd.tg),.slice A dd.rs.length c,.int .i64 dd.ls,.int .i64 qn,.int .i64 dd.iq] _ rfl R9.range Tryz.underlying25 rfl (zae _ _ _ _ _ _ _ _ _ _ _ _)) rfl (by exact GOOD.out _ _ _ _ N.out M9.out.bw ⟨SFH.out.nil,SFH.out.fresh,SFH.out.cap,M9.out.fact (i:=0) rfl⟩)

theorem zox {q r:Msg} {d:Dlg} (h:zbt q r true r.hs = .ok d):zc6 q r = .ok { d with rs:=d.rs.reverse,ls:=(zan q.hs).1,iq:=(zan q.hs).1 }:=by unfold zc6;rw [h]
theorem zqz {q r:Msg} {cl:Bool} {s:List Hd} {d:Dlg} (h:zbt q r cl s = .ok d):d.rs.length≤16:=by
 unfold zbt at h
 split at h
 · cases h
 · rename_i l hl
   dsimp only at h
   split at h
   · cases h
   · split at h
     · cases h
     · cases h
       show l.length≤16;omega
theorem zqm {q r:Msg} {k:Int} (h:zbt q r true r.hs = .error k):zc6 q r = .error k:=by unfold zc6;rw [h]
theorem zgw (q r:Msg) (A1 B1 A2 B2:Option Addr) (c1 n1 d1 c2 n2 d2:Nat) (w:World) (HQ:MArg w q A1) (HR:MArg w r A2) (G:GW w) :
  Calls Tryz.prog 19 #[.agg #[.string (strOfNums q.me),.string (strOfNums q.ur),.int .i64 q.co,.string (strOfNums q.re),.slice A1 q.hs.length c1,.slice B1 n1 d1],.agg #[.string (strOfNums r.me),.string (strOfNums r.ur),.int .i64 r.co,.string (strOfNums r.re),.slice A2 r.hs.length c2,.slice B2 n2 d2]] w (CrP w (zc6 q r)):=by
 have M0:=kd (zei w 31 31 25 [.string (strOfNums q.me),.string (strOfNums q.ur),.int .i64 q.co,.string (strOfNums q.re),.slice A1 q.hs.length c1,.slice B1 n1 d1] [.string (strOfNums r.me),.string (strOfNums r.ur),.int .i64 r.co,.string (strOfNums r.re),.slice A2 r.hs.length c2,.slice B2 n2 d2] [.int .u8 0,.bool false,.string ⟨#[]⟩,.string ⟨#[]⟩,.string ⟨#[]⟩,.string ⟨#[]⟩,.string ⟨#[]⟩,.string ⟨#[]⟩,.slice none 0 0,.int .i64 0,.int .i64 0,.int .i64 0])
 have CR:=kd (fun w' (hb:Below w.heap.size w w')=>zl7 q r r A1 B1 A2 B2 A2 B2 c1 n1 d1 c2 n2 d2 c2 n2 d2 true w' (HQ.step hb) (HR.step hb) (HR.step hb) (G.below hb));have SQ:=kd (fun w' (hb:Below w.heap.size w w')=>zej q A1 B1 c1 n1 d1 w' (HQ.step hb) (G.below hb))
 have E1:=kd (fun k h=>zqm (q:=q) (r:=r) (k:=k) h);have E2:=kd (fun d h=>zox (q:=q) (r:=r) (d:=d) h);have BAD:=kd (fun w' k h hb hk=>CrP.bad (w:=w) (w':=w') (R:=zc6 q r) (k:=k) h hb hk)
 have GOOD:=kd (fun w' d A c h hb hs=>CrP.good (w:=w) (w':=w') (R:=zc6 q r) (d:=d) (A:=A) (c:=c) h hb hs);unfold mS at SQ;unfold dgC at GOOD;generalize CrP w (zc6 q r)=PP at *;generalize zc6 q r=R at *
 have LEN:=kd (fun d h=>zqz (q:=q) (r:=r) (cl:=true) (s:=r.hs) (d:=d) h);generalize zbt q r true r.hs=cr at *;generalize zan q.hs=cq at *;obtain ⟨qn,qm,qb⟩:=cq;dsimp only at *;clear HQ HR G
 go_enter Tryz.func19,Tryz.ntmps19
 go_upto_region 1 with (fail)
 generalize ((w.alloc (.cells #[.string (strOfNums q.me),.string (strOfNums q.ur),.int .i64 q.co,.string (strOfNums q.re),.slice A1 q.hs.length c1,.slice B1 n1 d1] 31)).alloc (.cells #[.string (strOfNums r.me),.string (strOfNums r.ur),.int .i64 r.co,.string (strOfNums r.re),.slice A2 r.hs.length c2,.slice B2 n2 d2] 31)).alloc (.cells #[.int .u8 0,.bool false,.string ⟨#[]⟩,.string ⟨#[]⟩,.string ⟨#[]⟩,.string ⟨#[]⟩,.string ⟨#[]⟩,.string ⟨#[]⟩,.slice none 0 0,.int .i64 0,.int .i64 0,.int .i64 0] 25)=w1 at *
 obtain ⟨g,hg⟩:∃ b,w.heap.size=b:=⟨_,rfl⟩;rw [hg] at M0 ⊢;clear hg;have RQ:=kd (M0.out.row (i:=2) rfl);have RR:=kd (M0.out.row (i:=1) rfl)
 go_wp2_with (first
  | (with_reducible refine zab rfl 31 (.tmp 2) rfl RQ.out rfl Tryz.underlying31 rfl zaw ?_)
  | (with_reducible refine zab rfl 31 (.tmp 3) rfl RR.out rfl Tryz.underlying31 rfl zaw ?_))
 refine (CR.out _ M0.out.bw).mono ?_;intro e w2 h2;clear CR RQ RR
 cases cr with
 | error k =>
   obtain ⟨rfl,hb2,hk⟩:=h2;have M2:=kd (M0.out.call hb2);have NZ:=kd hk;have N:=kd (E1.out k rfl)
   have dk:decide (k=0)=false:=by simpa using hk
   clear hb2 M0 E1 E2 SQ GOOD LEN;go_upto_region 2 with (with_reducible refine zak rfl 25 (.tmp 6) (.tmp 14) rfl Z12 Z12 rfl rfl za6 (zae _ _ _ _ _ _ _ _ _ _ _ _) zat ?_;intro w3 R3 S3);have M3:=kd (M2.out.join S3.out zNr R3.out);generalize w2.heap.size=gd at *;clear R3 S3 M2
   go_wp2_with (with_reducible refine zad M3.out 1 rfl 25 (.tmp 4) (.tmp 18) rfl Z12 _ rfl rfl rfl rfl za6 (zae _ _ _ _ _ _ _ _ _ _ _ _) zat ?_);intro w9 M9;have R9:=M9.out.row (i:=1) rfl;go_wp2_with fail
   exact bodyPost_ret (zah rfl _ _ _ (g+1+1) Z12 _ rfl R9.range Tryz.underlying25 rfl (zae _ _ _ _ _ _ _ _ _ _ _ _)) rfl (by exact BAD.out _ _ N.out M9.out.bw NZ.out)
 | ok dd =>
   obtain ⟨A,c,rfl,hb2,hs⟩:=h2;have N:=kd (E2.out dd rfl);have L16:=kd (LEN.out dd rfl);clear LEN;have SFH:=kd (hs.base M0.out.bw);have M2:=kd ((M0.out.call hb2).add (F:=fun W=>Rds W W.heap.size A (strs dd.rs)) (za9 hs.r (fun b o s e=>M0.out.fresh (hs.fresh b o s e).1)))
   clear hb2 M0 E1 E2 BAD hs;unfold dgC;go_upto_region 2 with (with_reducible refine zak rfl 25 (.tmp 6) (.tmp 14) rfl Z12 (dV dd A c) rfl rfl za6 (zae _ _ _ _ _ _ _ _ _ _ _ _) zat ?_;intro w3 R3 S3);have M3:=kd (M2.out.join S3.out zNr R3.out);generalize w2.heap.size=gd at *;clear R3 S3 M2
   have m8:w3.cell? ⟨gd,8,none⟩=some (.slice A dd.rs.length c):=(M3.out.row (i:=0) rfl).cell 8;have f8:w3.frozen? ⟨gd,8,none⟩=false:=(M3.out.row (i:=0) rfl).frozen 8;have RDS:=kd (show Rds w3 w3.heap.size A (strs dd.rs) from M3.out.fact (i:=0) rfl)
   have RV:=kd (ziw A dd.rs.length c dd.rs w3 rfl RDS.out (by have:=L16.out;omega));go_wp2_with fail;refine RV.out.mono ?_;rintro _ w4 ⟨v,rfl,hx⟩;obtain ⟨A5,c5,rfl,sf⟩:=hx.sf;have SF5:=kd (sf.base M3.out.bw)
   have M4:=kd ((M3.out.call hx.bw).add (F:=fun W=>Rds W W.heap.size A5 (strs dd.rs.reverse)) (za9 sf.r (fun b o s e=>M3.out.fresh (sf.fresh b o s e).1)));clear hx sf M3 m8 f8 RV RDS SFH;have SFH:=SF5;clear SF5
   have m8:w4.cell? ⟨gd,8,none⟩=some (.slice A dd.rs.length c):=(M4.out.row (i:=0) rfl).cell 8;have f8:w4.frozen? ⟨gd,8,none⟩=false:=(M4.out.row (i:=0) rfl).frozen 8;go_upto_region 5 with (fail)
   have M5:=kd (show Mine w (w4.setCell ⟨gd,8,none⟩ (.slice A5 dd.rs.length c5)) [(gd,25,(dV dd A5 c5)),(g+1+1,25,Z12),(g+1,31,(mV r A2 c2 B2 n2 d2)),(g,31,(mV q A1 c1 B1 n1 d1))] [fun W=>Rds W W.heap.size A5 (strs dd.rs.reverse),fun W=>Rds W W.heap.size A (strs dd.rs)] from M4.out.setCell (i:=0) (off:=8) _ rfl rfl)
   clear m8 f8 M4;generalize w4.setCell ⟨gd,8,none⟩ (.slice A5 dd.rs.length c5)=w5 at *;have RQ:=kd (M5.out.row (i:=3) rfl);go_wp2_with (with_reducible refine zab rfl 31 (.tmp 2) rfl RQ.out rfl Tryz.underlying31 rfl zaw ?_);refine (SQ.out _ M5.out.bw).mono ?_;rintro _ w6 ⟨rfl,hb6⟩
   have M6:=kd (M5.out.call hb6);clear hb6 SQ RQ M5;have m9:w6.cell? ⟨gd,9,none⟩=some (.int .i64 dd.ls):=(M6.out.row (i:=0) rfl).cell 9;have f9:w6.frozen? ⟨gd,9,none⟩=false:=(M6.out.row (i:=0) rfl).frozen 9;go_upto_region 6 with (fail)
   have M7:=kd (show Mine w (w6.setCell ⟨gd,9,none⟩ (.int .i64 qn)) [(gd,25,[.int .u8 dd.st,.bool dd.cl,.string (strOfNums dd.ci),.string (strOfNums dd.lt),.string (strOfNums dd.rt),.string (strOfNums dd.lu),.string (strOfNums dd.ru),.string (strOfNums dd.tg),.slice A5 dd.rs.length c5,.int .i64 qn,.int .i64 dd.rq,.int .i64 dd.iq]),(g+1+1,25,Z12),(g+1,31,(mV r A2 c2 B2 n2 d2)),(g,31,(mV q A1 c1 B1 n1 d1))] [fun W=>Rds W W.heap.size A5 (strs dd.rs.reverse),fun W=>Rds W W.heap.size A (strs dd.rs)] from M6.out.setCell (i:=0) (off:=9) _ rfl rfl)
   clear m9 f9 M6;generalize w6.setCell ⟨gd,9,none⟩ (.int .i64 qn)=w7 at *;have m9:w7.cell? ⟨gd,9,none⟩=some (.int .i64 qn):=(M7.out.row (i:=0) rfl).cell 9;have m11:w7.cell? ⟨gd,11,none⟩=some (.int .i64 dd.iq):=(M7.out.row (i:=0) rfl).cell 11
   have f11:w7.frozen? ⟨gd,11,none⟩=false:=(M7.out.row (i:=0) rfl).frozen 11;go_upto_region 7 with (fail)
   have M8:=kd (show Mine w (w7.setCell ⟨gd,11,none⟩ (.int .i64 qn)) [(gd,25,[.int .u8 dd.st,.bool dd.cl,.string (strOfNums dd.ci),.string (strOfNums dd.lt),.string (strOfNums dd.rt),.string (strOfNums dd.lu),.string (strOfNums dd.ru),.string (strOfNums dd.tg),.slice A5 dd.rs.length c5,.int .i64 qn,.int .i64 dd.rq,.int .i64 qn]),(g+1+1,25,Z12),(g+1,31,(mV r A2 c2 B2 n2 d2)),(g,31,(mV q A1 c1 B1 n1 d1))] [fun W=>Rds W W.heap.size A5 (strs dd.rs.reverse),fun W=>Rds W W.heap.size A (strs dd.rs)] from M7.out.setCell (i:=0) (off:=11) _ rfl rfl)
   clear m9 m11 f11 M7;generalize w7.setCell ⟨gd,11,none⟩ (.int .i64 qn)=w8 at *;have RD:=kd (M8.out.row (i:=0) rfl)
   go_wp2_with (first
    | (with_reducible refine zab rfl 25 (.tmp 6) rfl RD.out rfl Tryz.underlying25 rfl (zae _ _ _ _ _ _ _ _ _ _ _ _) ?_)
    | (with_reducible refine zad M8.out 1 rfl 25 (.tmp 4) (.tmp 34) rfl [.int .u8 dd.st,.bool dd.cl,.string (strOfNums dd.ci),.string (strOfNums dd.lt),.string (strOfNums dd.rt),.string (strOfNums dd.lu),.string (strOfNums dd.ru),.string (strOfNums dd.tg),.slice A5 dd.rs.length c5,.int .i64 qn,.int .i64 dd.rq,.int .i64 qn] _ rfl rfl rfl rfl za6 (zae _ _ _ _ _ _ _ _ _ _ _ _) zat ?_))
   intro w9 M9;have R9:=M9.out.row (i:=1) rfl;go_wp2_with fail
   exact bodyPost_ret (zah rfl _ _ _ (g+1+1) [.int .u8 dd.st,.bool dd.cl,.string (strOfNums dd.ci),.string (strOfNums dd.lt),.string (strOfNums dd.rt),.string (strOfNums dd.lu),.string (strOfNums dd.ru),.string (strOfNums dd.tg),.slice A5 dd.rs.length c5,.int .i64 qn,.int .i64 dd.rq,.int .i64 qn] _ rfl R9.range Tryz.underlying25 rfl (zae _ _ _ _ _ _ _ _ _ _ _ _)) rfl (by have h:=GOOD.out _ _ _ _ N.out M9.out.bw ⟨SFH.out.nil,SFH.out.fresh,SFH.out.cap,M9.out.fact (i:=0) rfl⟩;simp only [List.length_reverse] at h;exact h)
end Go.Proofs.YtfnmkedncfdceaaGreatDoor
